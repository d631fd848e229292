/- A part of the proof: no statement of its own. -/
import Derived.Test.YtbfdmfplhphilaaQG63461792
set_option linter.unusedSimpArgs false
set_option linter.unusedVariables false
/- Cells with tolerances, by the program: offsets, possible tolerances, boxes. -/
namespace Go.Proofs.Ytbfdmfplhphilaa
namespace Abs
open Go Go.RowKit
noncomputable section
attribute [local irreducible] FnSat
@[irreducible] def insV (a l h b : Int) : Bool := decide (a ≤ l) && decide (l ≤ h) && decide (h ≤ b)
theorem insV_iff {a l h b : Int} : insV a l h b = true ↔ a ≤ l ∧ l ≤ h ∧ h ≤ b := by unfold insV; simp [and_assoc]
/-- a cell with offsets -/
@[irreducible] def mvC (c : Cel) (d : Nat → Int) : Cel := ⟨c.cap + d 0, c.ocv, c.shift + d 1, c.cold, c.extra + d 2, c.pair + d 3, c.keep, c.leak + d 4, c.hcap + d 5, c.cool + d 6, c.stress, c.cyc, c.agel, c.grow⟩
@[simp] theorem mvC_cap (c : Cel) (d : Nat → Int) : (mvC c d).cap = c.cap + d 0 := by unfold mvC Cel.cap; rfl
@[simp] theorem mvC_shift (c : Cel) (d : Nat → Int) : (mvC c d).shift = c.shift + d 1 := by unfold mvC Cel.shift; rfl
@[simp] theorem mvC_extra (c : Cel) (d : Nat → Int) : (mvC c d).extra = c.extra + d 2 := by unfold mvC Cel.extra; rfl
@[simp] theorem mvC_pair (c : Cel) (d : Nat → Int) : (mvC c d).pair = c.pair + d 3 := by unfold mvC Cel.pair; rfl
@[simp] theorem mvC_leak (c : Cel) (d : Nat → Int) : (mvC c d).leak = c.leak + d 4 := by unfold mvC Cel.leak; rfl
@[simp] theorem mvC_hcap (c : Cel) (d : Nat → Int) : (mvC c d).hcap = c.hcap + d 5 := by unfold mvC Cel.hcap; rfl
@[simp] theorem mvC_cool (c : Cel) (d : Nat → Int) : (mvC c d).cool = c.cool + d 6 := by unfold mvC Cel.cool; rfl
@[simp] theorem mvC_ocv (c : Cel) (d : Nat → Int) : (mvC c d).ocv = c.ocv := by unfold mvC Cel.ocv; rfl
@[simp] theorem mvC_cold (c : Cel) (d : Nat → Int) : (mvC c d).cold = c.cold := by unfold mvC Cel.cold; rfl
@[simp] theorem mvC_stress (c : Cel) (d : Nat → Int) : (mvC c d).stress = c.stress := by unfold mvC Cel.stress; rfl
@[simp] theorem mvC_keep (c : Cel) (d : Nat → Int) : (mvC c d).keep = c.keep := by unfold mvC Cel.keep; rfl
@[simp] theorem mvC_cyc (c : Cel) (d : Nat → Int) : (mvC c d).cyc = c.cyc := by unfold mvC Cel.cyc; rfl
@[simp] theorem mvC_agel (c : Cel) (d : Nat → Int) : (mvC c d).agel = c.agel := by unfold mvC Cel.agel; rfl
@[simp] theorem mvC_grow (c : Cel) (d : Nat → Int) : (mvC c d).grow = c.grow := by unfold mvC Cel.grow; rfl
@[irreducible] def ofsB (d : Nat → Int) : Prop := ∀ k, k < 7 → -1099511627776 ≤ d k ∧ d k ≤ 1099511627776
def numF : SpecF [.cells 26 celCells] [.own 0 0] :=
  ⟨fun _ _ => True, fun _ _ => .agg [.own 0 0, .own 0 3, .own 0 6, .own 0 7, .own 0 9, .own 0 10, .own 0 11], fun (c, _) _ => encH [.cells 26 celCells] (c, ())⟩
set_option maxRecDepth 100000 in
theorem num_ok : FnSpecF Try.prog 27 _ _ numF := by
  refine FnSpecF.of SRg_ok mixed (U := 0) (I := fun _ _ => []) Try.func27 rfl (by kernel_rfl) rfl (by decide +kernel) ?_
  rintro ⟨c, ⟨⟩⟩ ⟨⟨⟩, ⟨⟩⟩ hpre
  obtain ⟨c, rfl⟩ := cel_ex c
  unfold FnSat
  conv => arg 2; reduce
  simp [numF, aliveB, getB, encH, encB, encL_cel, ElEq, and_assoc]
noncomputable def SBa : Sums := ⟨SRg.one, (27, mkSumF _ _ numF) :: SRg.two, SRg.lo, SRg.eqs, SRg.its, SRg.imm⟩
theorem SBa_ok : SumsOK Try.prog SBa := SRg_ok.addTwo Try.func27 (by kernel_rfl) (by kernel_rfl) (mkSumF_ok num_ok)
def elo : Spec [.int .i64, .ptr [spansSh]] := ⟨fun ((i : Int), ((n, _), _), _) => 0 ≤ i ∧ i < (n : Int), fun ((i : Int), ((_, el), _), _) => .si .i64 (el (nat i)).1⟩
set_option maxRecDepth 100000 in
theorem elo_ok : FnSpec Try.prog 60 _ elo := by
  refine FnSpec.of SRg_ok mixed (U := 0) (I := fun _ => []) Try.func60 rfl (by kernel_rfl) rfl rfl (by decide +kernel) ?_
  rintro ⟨(i : Int), ⟨⟨n, el⟩, ⟨⟩⟩, ⟨⟩⟩ ⟨(h1 : 0 ≤ i), (h2 : i < (n : Int))⟩
  obtain ⟨lo, hi, rfl⟩ : ∃ lo hi : Nat → Int, el = fun k => (lo k, hi k, ()) := ⟨fun k => (el k).1, fun k => (el k).2.1, rfl⟩
  unfold FnSat
  conv => arg 2; reduce
  simp [elo]
  omega
def ehi : Spec [.int .i64, .ptr [spansSh]] := ⟨fun ((i : Int), ((n, _), _), _) => 0 ≤ i ∧ i < (n : Int), fun ((i : Int), ((_, el), _), _) => .si .i64 (el (nat i)).2.1⟩
set_option maxRecDepth 100000 in
theorem ehi_ok : FnSpec Try.prog 61 _ ehi := by
  refine FnSpec.of SRg_ok mixed (U := 0) (I := fun _ => []) Try.func61 rfl (by kernel_rfl) rfl rfl (by decide +kernel) ?_
  rintro ⟨(i : Int), ⟨⟨n, el⟩, ⟨⟩⟩, ⟨⟩⟩ ⟨(h1 : 0 ≤ i), (h2 : i < (n : Int))⟩
  obtain ⟨lo, hi, rfl⟩ : ∃ lo hi : Nat → Int, el = fun k => (lo k, hi k, ()) := ⟨fun k => (el k).1, fun k => (el k).2.1, rfl⟩
  unfold FnSat
  conv => arg 2; reduce
  simp [ehi]
  omega
noncomputable def SBb : Sums := ⟨(61, mkSum _ ehi) :: (60, mkSum _ elo) :: SBa.one, SBa.two, SBa.lo, SBa.eqs, SBa.its, SBa.imm⟩
theorem SBb_ok : SumsOK Try.prog SBb := ((SBa_ok.cons Try.func60 (by kernel_rfl) (by kernel_rfl) elo_ok).cons Try.func61 (by kernel_rfl) (by kernel_rfl) ehi_ok)
/-- a cell with offsets, laid out -/
@[reducible] def mvA (c : Cel) (d : Nat → Int) : AV := .agg [.si .i64 (mvC c d).cap, .slc (.sym c.ocv.nx) 1 (fun k => [.si .i64 (c.ocv.x k)]), .slc (.sym c.ocv.ny) 1 (fun k => [.si .i64 (c.ocv.y k)]), .si .i64 (mvC c d).shift,
    .slc (.sym c.cold.nx) 1 (fun k => [.si .i64 (c.cold.x k)]), .slc (.sym c.cold.ny) 1 (fun k => [.si .i64 (c.cold.y k)]), .si .i64 (mvC c d).extra, .si .i64 (mvC c d).pair, .si .i64 c.keep, .si .i64 (mvC c d).leak, .si .i64 (mvC c d).hcap, .si .i64 (mvC c d).cool,
    .slc (.sym c.stress.nx) 1 (fun k => [.si .i64 (c.stress.x k)]), .slc (.sym c.stress.ny) 1 (fun k => [.si .i64 (c.stress.y k)]), .si .i64 c.cyc, .si .i64 c.agel, .si .i64 c.grow]
theorem encMv (c : Cel) (d : Nat → Int) : enc celSh (celD (mvC c d)) = mvA c d := by
  show AV.agg (encL celCells (celD (mvC c d))) = _
  rw [encL_cel]; simp
def moLo : Spec [celSh, .fn 60 [] [.ptr [spansSh]]] := ⟨fun (c, (_, ((n, el), _), _), _) => celB (celOf c) = true ∧ n = 7 ∧ ofsB (fun k => (el k).1), fun (c, (_, ((_, el), _), _), _) => mvA (celOf c) (fun k => (el k).1)⟩
set_option maxRecDepth 100000 in
set_option maxHeartbeats 2000000 in
theorem moLo_ok : FnSpec Try.prog 29 _ moLo := by
  refine FnSpec.of SBb_ok mixed (U := 8) (I := fun _ => []) Try.func29 rfl (by kernel_rfl) rfl rfl (by decide +kernel) ?_
  rintro ⟨c, ⟨y, ⟨⟨n, el⟩, ⟨⟩⟩, ⟨⟩⟩, ⟨⟩⟩ hpre
  obtain ⟨c, rfl⟩ := cel_ex c
  obtain ⟨lo, hi, rfl⟩ : ∃ lo hi : Nat → Int, el = fun k => (lo k, hi k, ()) := ⟨fun k => (el k).1, fun k => (el k).2.1, rfl⟩
  have hpre : celB c = true ∧ n = 7 ∧ ofsB lo := by have : celB (celOf (celD c)) = true ∧ n = 7 ∧ ofsB lo := hpre; rwa [celOf_D] at this
  obtain ⟨hc, rfl, ho⟩ := hpre
  unfold FnSat
  conv => arg 2; reduce
  simp [moLo, elo, numF, encL_cel, ElEq, getB, goneB, aliveB, and_assoc]
  have hk := celB_iff.1 hc
  unfold ofsB at ho
  have a0 := ho 0 (by decide)
  have a1 := ho 1 (by decide)
  have a2 := ho 2 (by decide)
  have a3 := ho 3 (by decide)
  have a4 := ho 4 (by decide)
  have a5 := ho 5 (by decide)
  have a6 := ho 6 (by decide)
  have := hk.cap0
  have := hk.cap1
  have := hk.sh0
  have := hk.sh1
  have := hk.ex0
  have := hk.ex1
  have := hk.pr0
  have := hk.pr1
  have := hk.lk0
  have := hk.lk1
  have := hk.hc0
  have := hk.hc1
  have := hk.co0
  have := hk.co1
  omega
def moHi : Spec [celSh, .fn 61 [] [.ptr [spansSh]]] := ⟨fun (c, (_, ((n, el), _), _), _) => celB (celOf c) = true ∧ n = 7 ∧ ofsB (fun k => (el k).2.1), fun (c, (_, ((_, el), _), _), _) => mvA (celOf c) (fun k => (el k).2.1)⟩
set_option maxRecDepth 100000 in
set_option maxHeartbeats 2000000 in
theorem moHi_ok : FnSpec Try.prog 29 _ moHi := by
  refine FnSpec.of SBb_ok mixed (U := 8) (I := fun _ => []) Try.func29 rfl (by kernel_rfl) rfl rfl (by decide +kernel) ?_
  rintro ⟨c, ⟨y, ⟨⟨n, el⟩, ⟨⟩⟩, ⟨⟩⟩, ⟨⟩⟩ hpre
  obtain ⟨c, rfl⟩ := cel_ex c
  obtain ⟨lo, hi, rfl⟩ : ∃ lo hi : Nat → Int, el = fun k => (lo k, hi k, ()) := ⟨fun k => (el k).1, fun k => (el k).2.1, rfl⟩
  have hpre : celB c = true ∧ n = 7 ∧ ofsB hi := by have : celB (celOf (celD c)) = true ∧ n = 7 ∧ ofsB hi := hpre; rwa [celOf_D] at this
  obtain ⟨hc, rfl, ho⟩ := hpre
  unfold FnSat
  conv => arg 2; reduce
  simp [moHi, ehi, numF, encL_cel, ElEq, getB, goneB, aliveB, and_assoc]
  have hk := celB_iff.1 hc
  unfold ofsB at ho
  have a0 := ho 0 (by decide)
  have a1 := ho 1 (by decide)
  have a2 := ho 2 (by decide)
  have a3 := ho 3 (by decide)
  have a4 := ho 4 (by decide)
  have a5 := ho 5 (by decide)
  have a6 := ho 6 (by decide)
  have := hk.cap0
  have := hk.cap1
  have := hk.sh0
  have := hk.sh1
  have := hk.ex0
  have := hk.ex1
  have := hk.pr0
  have := hk.pr1
  have := hk.lk0
  have := hk.lk1
  have := hk.hc0
  have := hk.hc1
  have := hk.co0
  have := hk.co1
  omega
noncomputable def SBc : Sums := ⟨(29, (altSum (mkSum _ moLo) (mkSum _ moHi))) :: SBb.one, SBb.two, SBb.lo, SBb.eqs, SBb.its, SBb.imm⟩
theorem SBc_ok : SumsOK Try.prog SBc := (SBb_ok.add Try.func29 (by kernel_rfl) (by kernel_rfl) (altSum_ok (mkSum_ok moLo_ok) (mkSum_ok moHi_ok)))
def qchS : Spec [spanSh] := ⟨fun _ => True, fun (((lo : Int), (hi : Int), _), _) => .si .i64 (errA (spanOK lo hi))⟩
set_option maxRecDepth 100000 in
theorem qch_ok : FnSpec Try.prog 59 _ qchS := by
  refine FnSpec.of SBc_ok mixed (U := 0) (I := fun _ => []) Try.func59 rfl (by kernel_rfl) rfl rfl (by decide +kernel) ?_
  rintro ⟨⟨(lo : Int), (hi : Int), ⟨⟩⟩, ⟨⟩⟩ -
  unfold FnSat
  conv => arg 2; reduce
  simp [qchS, validS, maxLen, decL, rowAt, takeL, dropL]
  cases spanOK lo hi <;> simp [errA]
noncomputable def SBd : Sums := ⟨(59, mkSum _ qchS) :: SBc.one, SBc.two, SBc.lo, SBc.eqs, SBc.its, SBc.imm⟩
theorem SBd_ok : SumsOK Try.prog SBd := (SBc_ok.cons Try.func59 (by kernel_rfl) (by kernel_rfl) qch_ok)
@[irreducible] def vldB (n : Nat) (lo hi : Nat → Int) (m : Int) : Bool := decide ((n : Int) = m) && allN (fun k => spanOK (lo k) (hi k)) n
theorem vldB_iff {n : Nat} {lo hi : Nat → Int} {m : Int} : vldB n lo hi m = true ↔ (n : Int) = m ∧ ∀ k, k < n → spanOK (lo k) (hi k) = true := by unfold vldB; rw [Bool.and_eq_true, decide_eq_true_eq, allN_iff]
def vldS : Spec [spansSh, .int .i64] := ⟨fun (x, _) => x.1 ≤ maxLen, fun ((n, el), (m : Int), _) => .sb (vldB n (fun k => (el k).1) (fun k => (el k).2.1) m)⟩
def vldI : DatL [spansSh, .int .i64] → Anns := fun ((n, el), (m : Int), _) => [
  (4, [], fun fr hp => ⟨Nat, fun g => ⟨frI [.k 6, .t 1, .k 6, .s (.si .i64 (icast g)), .t 7] fr, hp⟩, Nat × Nat × (Nat → Int) × (Nat → Int), fun g => (g, n, (fun k => (el k).1), (fun k => (el k).2.1)), fun (g, n, lo, hi) => g ≤ n ∧ ∀ k, k < g → spanOK (lo k) (hi k) = true, fun g => nsub n g⟩)]
set_option maxRecDepth 100000 in
theorem vld_ok : FnSpec Try.prog 36 _ vldS := by
  refine FnSpec.of SBd_ok mixed (U := 0) (I := vldI) Try.func36 rfl (by kernel_rfl) rfl rfl (by decide +kernel) ?_
  rintro ⟨⟨n, el⟩, (m : Int), ⟨⟩⟩ (hn : n ≤ maxLen)
  obtain ⟨lo, hi, rfl⟩ : ∃ lo hi : Nat → Int, el = fun k => (lo k, hi k, ()) := ⟨fun k => (el k).1, fun k => (el k).2.1, rfl⟩
  unfold FnSat
  conv => arg 2; reduce
  unfold maxLen at hn
  simp [vldS, qchS, and_assoc]
  have no : (vldB n lo hi m = true → False) → vldB n lo hi m = false := fun h => by cases hb : vldB n lo hi m with | false => rfl | true => exact (h hb).elim
  refine ⟨fun h => no fun hb => h (vldB_iff.1 hb).1, fun h => ⟨⟨0, rfl, by omega, fun k hk => by omega⟩, fun g hg hf => ⟨fun hlt => ⟨hlt, fun hb => no fun hv => ?_, fun hb => ⟨by omega, by omega, g + 1, by omega, by omega, fun k hk => ?_, by omega⟩⟩, fun hge => vldB_iff.2 ⟨h, fun k hk => hf k (by omega)⟩⟩⟩⟩
  · have := (vldB_iff.1 hv).2 g hlt
    rw [hb] at this; cases this
  · by_cases h' : k < g
    · exact hf k h'
    · obtain rfl : k = g := by omega
      exact hb
def insC : Spec [spanSh, .int .i64, .int .i64] := ⟨fun _ => True, fun (((l : Int), (h : Int), _), (a : Int), (b : Int), _) => .sb (insV a l h b)⟩
set_option maxRecDepth 100000 in
theorem cin_ok : FnSpec Try.prog 47 _ insC := by
  refine FnSpec.of SBd_ok mixed (U := 0) (I := fun _ => []) Try.func47 rfl (by kernel_rfl) rfl rfl (by decide +kernel) ?_
  rintro ⟨⟨(l : Int), (h : Int), ⟨⟩⟩, (a : Int), (b : Int), ⟨⟩⟩ -
  unfold FnSat
  conv => arg 2; reduce
  simp [insC, insV]
@[irreducible] def hlo (n : Nat) (v : Nat → Int) : Int := if n = 2 then min (v 0) (v 1) else min (min (v 0) (v 1)) (min (v 2) (v 3))
@[irreducible] def hhi (n : Nat) (v : Nat → Int) : Int := if n = 2 then max (v 0) (v 1) else max (max (v 0) (v 1)) (max (v 2) (v 3))
theorem hlo2 (v : Nat → Int) : hlo 2 v = min (v 0) (v 1) := by unfold hlo; rw [if_pos rfl]
theorem hhi2 (v : Nat → Int) : hhi 2 v = max (v 0) (v 1) := by unfold hhi; rw [if_pos rfl]
theorem hlo4 (v : Nat → Int) : hlo 4 v = min (min (v 0) (v 1)) (min (v 2) (v 3)) := by unfold hlo; rw [if_neg (by decide)]
theorem hhi4 (v : Nat → Int) : hhi 4 v = max (max (v 0) (v 1)) (max (v 2) (v 3)) := by unfold hhi; rw [if_neg (by decide)]
def hulS : Spec [intsSh] := ⟨fun ((n, _), _) => n = 2 ∨ n = 4, fun ((n, el), _) => .tup [.si .i64 (hlo n (fun k => (el k).1)), .si .i64 (hhi n (fun k => (el k).1))]⟩
set_option maxRecDepth 100000 in
theorem hul_ok : FnSpec Try.prog 88 _ hulS := by
  refine FnSpec.of SBd_ok mixed (U := 6) (I := fun _ => []) Try.func88 rfl (by kernel_rfl) rfl rfl (by decide +kernel) ?_
  rintro ⟨⟨n, el⟩, ⟨⟩⟩ (hn : n = 2 ∨ n = 4)
  obtain ⟨v, rfl⟩ : ∃ v : Nat → Int, el = fun k => (v k, ()) := ⟨fun k => (el k).1, rfl⟩
  unfold FnSat
  conv => arg 2; reduce
  rcases hn with rfl | rfl
  · simp [hulS, and_assoc, hlo2, hhi2]
    try omega
  · simp [hulS, and_assoc, hlo4, hhi4]
    try omega
noncomputable def SBe0 : Sums := ⟨(88, mkSum _ hulS) :: (47, mkSum _ insC) :: SBd.one, SBd.two, SBd.lo, SBd.eqs, SBd.its, SBd.imm⟩
theorem SBe0_ok : SumsOK Try.prog SBe0 := ((SBd_ok.cons Try.func47 (by kernel_rfl) (by kernel_rfl) cin_ok).cons Try.func88 (by kernel_rfl) (by kernel_rfl) hul_ok)
theorem mulB {K L a c : Int} (ha : -K ≤ a ∧ a ≤ K) (hc : -L ≤ c ∧ c ≤ L) : -(K * L) ≤ a * c ∧ a * c ≤ K * L := by
  have hK : 0 ≤ K := by omega
  have hL : 0 ≤ L := by omega
  have h1 : (a * c).natAbs ≤ (K * L).natAbs := by
    rw [Int.natAbs_mul, Int.natAbs_mul]
    exact Nat.mul_le_mul (by omega) (by omega)
  have h2 : 0 ≤ K * L := Int.mul_nonneg hK hL
  omega
def proS : Spec [spanSh, spanSh] := ⟨fun (((a : Int), (b : Int), _), ((c : Int), (d : Int), _), _) => (-1099511627776 ≤ a ∧ a ≤ 1099511627776) ∧ (-1099511627776 ≤ b ∧ b ≤ 1099511627776) ∧ (-4194304 ≤ c ∧ c ≤ 4194304) ∧ (-4194304 ≤ d ∧ d ≤ 4194304),
  fun (((a : Int), (b : Int), _), ((c : Int), (d : Int), _), _) => .tup [.si .i64 (min (min (a * c) (a * d)) (min (b * c) (b * d))), .si .i64 (max (max (a * c) (a * d)) (max (b * c) (b * d)))]⟩
set_option maxRecDepth 100000 in
theorem pro_ok : FnSpec Try.prog 69 _ proS := by
  refine FnSpec.of SBe0_ok mixed (U := 0) (I := fun _ => []) Try.func69 rfl (by kernel_rfl) rfl rfl (by decide +kernel) ?_
  rintro ⟨⟨(a : Int), (b : Int), ⟨⟩⟩, ⟨(c : Int), (d : Int), ⟨⟩⟩, ⟨⟩⟩ ⟨ha, hb, hc, hd⟩
  unfold FnSat
  conv => arg 2; reduce
  simp [proS, hulS, decL, takeL, dropL, and_assoc]
  have h1 := mulB (K := 1099511627776) (L := 4194304) ha hc
  have h2 := mulB (K := 1099511627776) (L := 4194304) ha hd
  have h3 := mulB (K := 1099511627776) (L := 4194304) hb hc
  have h4 := mulB (K := 1099511627776) (L := 4194304) hb hd
  refine ⟨by omega, by omega, by omega, by omega, by omega, by omega, by omega, by omega, fun k hk => ?_, ?_, ?_⟩
  · match k, hk with
    | 0, _ => simp [rowAt, takeL, dropL]
    | 1, _ => simp [rowAt, takeL, dropL]
    | 2, _ => simp [rowAt, takeL, dropL]
    | 3, _ => simp [rowAt, takeL, dropL]
  · rw [hlo4]
    exact Int.min_assoc ..
  · rw [hhi4]
    exact Int.max_assoc ..
end
end Abs
end Go.Proofs.Ytbfdmfplhphilaa

/- Cells with tolerances, by the program: the ends, Possible, check. -/
namespace Go.Proofs.Ytbfdmfplhphilaa
namespace Abs
open Go Go.RowKit
noncomputable section
attribute [local irreducible] FnSat
theorem celOf_mv (c : Cel) (d : Nat → Int) : celOf (c.cap + d 0, (c.ocv.nx, fun k => (c.ocv.x k, ())), (c.ocv.ny, fun k => (c.ocv.y k, ())), c.shift + d 1, (c.cold.nx, fun k => (c.cold.x k, ())), (c.cold.ny, fun k => (c.cold.y k, ())),
    c.extra + d 2, c.pair + d 3, c.keep, c.leak + d 4, c.hcap + d 5, c.cool + d 6, (c.stress.nx, fun k => (c.stress.x k, ())), (c.stress.ny, fun k => (c.stress.y k, ())), c.cyc, c.agel, c.grow, ()) = mvC c d := by
  have := celOf_mk (mvC c d)
  simpa only [mvC_cap, mvC_shift, mvC_extra, mvC_pair, mvC_leak, mvC_hcap, mvC_cool, mvC_ocv, mvC_cold, mvC_stress, mvC_keep, mvC_cyc, mvC_agel, mvC_grow] using this
theorem vldB_ofs {n : Nat} {lo hi : Nat → Int} (h : vldB n lo hi 7 = true) : n = 7 ∧ ofsB lo ∧ ofsB hi := by
  obtain ⟨h1, h2⟩ := vldB_iff.1 h
  have h1 : n = 7 := by omega
  subst h1
  refine ⟨rfl, ?_, ?_⟩ <;>
  · unfold ofsB
    intro k hk
    have := spanOK_iff.1 (h2 k hk)
    omega
noncomputable def SBi : Sums := ⟨SBe0.one, SBe0.two, SBe0.lo, SBe0.eqs, SBe0.its, [27]⟩
theorem SBi_ok : SumsOK Try.prog SBi := SBe0_ok.setImm _
def endS : Spec [celSh, spansSh] := ⟨fun (c, (n, el), _) => celB (celOf c) = true ∧ n = 7 ∧ ofsB (fun k => (el k).1) ∧ ofsB (fun k => (el k).2.1), fun (c, (_, el), _) => .tup [mvA (celOf c) (fun k => (el k).1), mvA (celOf c) (fun k => (el k).2.1)]⟩
set_option maxRecDepth 100000 in
set_option maxHeartbeats 2000000 in
theorem end_ok : FnSpec Try.prog 37 _ endS := by
  refine FnSpec.of SBi_ok mixed (U := 0) (I := fun _ => []) Try.func37 rfl (by kernel_rfl) rfl rfl (by decide +kernel) ?_
  rintro ⟨c, ⟨n, el⟩, ⟨⟩⟩ hpre
  obtain ⟨c, rfl⟩ := cel_ex c
  obtain ⟨lo, hi, rfl⟩ : ∃ lo hi : Nat → Int, el = fun k => (lo k, hi k, ()) := ⟨fun k => (el k).1, fun k => (el k).2.1, rfl⟩
  have hpre : celB c = true ∧ n = 7 ∧ ofsB lo ∧ ofsB hi := by have : celB (celOf (celD c)) = true ∧ n = 7 ∧ ofsB lo ∧ ofsB hi := hpre; rwa [celOf_D] at this
  obtain ⟨hc, rfl, ho, ho2⟩ := hpre
  unfold FnSat
  conv => arg 2; reduce
  simp [endS, moLo, moHi, ElEq, getB, goneB, aliveB, and_assoc]
  exact ⟨hc, ho, hc, ho2⟩
def num0 : Spec [.ptr celCells] := ⟨fun _ => True, fun _ => .top⟩
set_option maxRecDepth 100000 in
theorem num0_ok : FnSpec Try.prog 27 _ num0 := by
  refine FnSpec.of SRg_ok mixed (U := 0) (I := fun _ => []) Try.func27 rfl (by kernel_rfl) rfl rfl (by decide +kernel) ?_
  rintro ⟨c, ⟨⟩⟩ -
  obtain ⟨c, rfl⟩ := cel_ex c
  unfold FnSat
  conv => arg 2; reduce
  simp [num0]
noncomputable def SBf0 : Sums := ⟨(36, mkSum _ vldS) :: (69, mkSum _ proS) :: (27, mkSum _ num0) :: (37, mkSum _ endS) :: SBe0.one, SBe0.two, SBe0.lo, SBe0.eqs, SBe0.its, SBe0.imm⟩
theorem SBf0_ok : SumsOK Try.prog SBf0 := ((((SBe0_ok.cons Try.func37 (by kernel_rfl) (by kernel_rfl) end_ok).cons Try.func27 (by kernel_rfl) (by kernel_rfl) num0_ok).cons Try.func69 (by kernel_rfl) (by kernel_rfl) pro_ok).cons Try.func36 (by kernel_rfl) (by kernel_rfl) vld_ok)
noncomputable def SBf : Sums := ⟨SBf0.one, SRg.two, SBe0.lo, SBe0.eqs, SBe0.its, [26]⟩
theorem SBf_ok : SumsOK Try.prog SBf := ⟨SBf0_ok.one, SRg_ok.two, SBf0_ok.eqs, SBf0_ok.bodyOne, SRg_ok.bodyTwo, SBf0_ok.its⟩
@[irreducible] def posV (c : Cel) (n : Nat) (lo hi : Nat → Int) : Int := if (celB c && vldB n lo hi 7) = true then (if (celB (mvC c lo) && celB (mvC c hi)) = true then 0 else 3) else 2
theorem posV_arg {c : Cel} {n : Nat} {lo hi : Nat → Int} (h : (celB c && vldB n lo hi 7) = false) : posV c n lo hi = 2 := by unfold posV; rw [h]; rfl
theorem posV_rng {c : Cel} {n : Nat} {lo hi : Nat → Int} (h1 : celB c = true) (h2 : vldB n lo hi 7 = true) (h : (celB (mvC c lo) && celB (mvC c hi)) = false) : posV c n lo hi = 3 := by unfold posV; rw [h1, h2, h]; rfl
theorem posV_ok {c : Cel} {n : Nat} {lo hi : Nat → Int} (h1 : celB c = true) (h2 : vldB n lo hi 7 = true) (h3 : celB (mvC c lo) = true) (h4 : celB (mvC c hi) = true) : posV c n lo hi = 0 := by unfold posV; rw [h1, h2, h3, h4]; rfl
theorem posV_zero {c : Cel} {n : Nat} {lo hi : Nat → Int} : posV c n lo hi = 0 ↔ celB c = true ∧ vldB n lo hi 7 = true ∧ celB (mvC c lo) = true ∧ celB (mvC c hi) = true := by
  unfold posV
  cases celB c <;> cases vldB n lo hi 7 <;> cases celB (mvC c lo) <;> cases celB (mvC c hi) <;> simp
theorem mvM {c : Cel} (h : CelMax c) (d : Nat → Int) : CelMax (mvC c d) := by
  unfold CelMax at h ⊢
  simpa using h
def posS : Spec [celSh, spansSh] := ⟨fun (c, x, _) => CelMax (celOf c) ∧ x.1 ≤ maxLen, fun (c, (n, el), _) => .si .i64 (posV (celOf c) n (fun k => (el k).1) (fun k => (el k).2.1))⟩
set_option maxRecDepth 100000 in
set_option maxHeartbeats 2000000 in
theorem pos_ok : FnSpec Try.prog 10 _ posS := by
  refine FnSpec.of SBf_ok mixed (U := 0) (I := fun _ => []) Try.func10 rfl (by kernel_rfl) rfl rfl (by decide +kernel) ?_
  rintro ⟨c, ⟨n, el⟩, ⟨⟩⟩ hpre
  obtain ⟨c, rfl⟩ := cel_ex c
  obtain ⟨lo, hi, rfl⟩ : ∃ lo hi : Nat → Int, el = fun k => (lo k, hi k, ()) := ⟨fun k => (el k).1, fun k => (el k).2.1, rfl⟩
  have hpre : CelMax c ∧ n ≤ maxLen := by have : CelMax (celOf (celD c)) ∧ n ≤ maxLen := hpre; rwa [celOf_D] at this
  obtain ⟨hc, hn⟩ := hpre
  unfold FnSat
  conv => arg 2; reduce
  simp [posS, ccheckS, vldS, endS, num0, celOf_mv, and_assoc]
  refine ⟨hc, fun _ => hn, fun h => (posV_arg ?_).symm, fun h1 h2 => ⟨h1, (vldB_ofs h2).1, (vldB_ofs h2).2.1, (vldB_ofs h2).2.2, mvM hc lo, fun _ => mvM hc hi, fun h => (posV_rng h1 h2 ?_).symm, fun h3 h4 => (posV_ok h1 h2 h3 h4).symm⟩⟩
  · rcases h with h | h
    · rw [h]; rfl
    · rw [h, Bool.and_false]
  · rcases h with h | h
    · rw [show celB (mvC c fun k => lo k) = false from h]; rfl
    · rw [show celB (mvC c fun k => hi k) = false from h, Bool.and_false]
end
end Abs
end Go.Proofs.Ytbfdmfplhphilaa

/- Cells with tolerances, by the program: check, squares. -/
namespace Go.Proofs.Ytbfdmfplhphilaa
namespace Abs
open Go Go.RowKit
noncomputable section
attribute [local irreducible] FnSat
noncomputable def SBg0 : Sums := ⟨(10, mkSum _ posS) :: SBf0.one, SBf0.two, SBf0.lo, SBf0.eqs, SBf0.its, SBf0.imm⟩
theorem SBg0_ok : SumsOK Try.prog SBg0 := (SBf0_ok.cons Try.func10 (by kernel_rfl) (by kernel_rfl) pos_ok)
noncomputable def SBg : Sums := ⟨SBg0.one, SBg0.two, SBg0.lo, SBg0.eqs, SBg0.its, [26]⟩
theorem SBg_ok : SumsOK Try.prog SBg := SBg0_ok.setImm _
/-- a box of states -/
@[irreducible] def boxB (n : Nat) (lo hi : Nat → Int) : Bool := decide (n = 5) && insV 0 (lo 0) (hi 0) 4294967296 && insV (-8388608) (lo 1) (hi 1) 8388608 && insV 0 (lo 2) (hi 2) 400000 && insV 0 (lo 3) (hi 3) 1099511627776 && insV 0 (lo 4) (hi 4) 1099511627776
theorem boxB_iff {n : Nat} {lo hi : Nat → Int} : boxB n lo hi = true ↔ n = 5 ∧ insV 0 (lo 0) (hi 0) 4294967296 = true ∧ insV (-8388608) (lo 1) (hi 1) 8388608 = true ∧ insV 0 (lo 2) (hi 2) 400000 = true ∧ insV 0 (lo 3) (hi 3) 1099511627776 = true ∧ insV 0 (lo 4) (hi 4) 1099511627776 = true := by
  unfold boxB; simp [and_assoc]
theorem boxB_no {n : Nat} {lo hi : Nat → Int} (h : boxB n lo hi = true → False) : boxB n lo hi = false := by
  cases hb : boxB n lo hi with
  | false => rfl
  | true => exact (h hb).elim
@[irreducible] def chkV (c : Cel) (n : Nat) (lo hi : Nat → Int) (m : Nat) (bl bh : Nat → Int) : Int := if posV c n lo hi = 0 then errA (boxB m bl bh) else posV c n lo hi
theorem chkV_pos {c : Cel} {n : Nat} {lo hi : Nat → Int} {m : Nat} {bl bh : Nat → Int} (h : ¬ posV c n lo hi = 0) : posV c n lo hi = chkV c n lo hi m bl bh := by unfold chkV; rw [if_neg h]
theorem chkV_no {c : Cel} {n : Nat} {lo hi : Nat → Int} {m : Nat} {bl bh : Nat → Int} (h : posV c n lo hi = 0) (hb : boxB m bl bh = true → False) : 2 = chkV c n lo hi m bl bh := by unfold chkV; rw [if_pos h, boxB_no hb, errA_false]
theorem chkV_ok {c : Cel} {n : Nat} {lo hi : Nat → Int} {m : Nat} {bl bh : Nat → Int} (h : posV c n lo hi = 0) (hb : boxB m bl bh = true) : 0 = chkV c n lo hi m bl bh := by unfold chkV; rw [if_pos h, hb, errA_true]
theorem chkV_zero {c : Cel} {n : Nat} {lo hi : Nat → Int} {m : Nat} {bl bh : Nat → Int} : chkV c n lo hi m bl bh = 0 ↔ posV c n lo hi = 0 ∧ boxB m bl bh = true := by
  unfold chkV
  by_cases h : posV c n lo hi = 0
  · rw [if_pos h]; simp [h]
  · rw [if_neg h]; simp [h]
def chkS : Spec [celSh, spansSh, spansSh] := ⟨fun (c, x, y, _) => CelMax (celOf c) ∧ x.1 ≤ maxLen ∧ y.1 ≤ maxLen, fun (c, (n, el), (m, em), _) => .si .i64 (chkV (celOf c) n (fun k => (el k).1) (fun k => (el k).2.1) m (fun k => (em k).1) (fun k => (em k).2.1))⟩
set_option maxRecDepth 100000 in
set_option maxHeartbeats 2000000 in
theorem chk_ok : FnSpec Try.prog 46 _ chkS := by
  refine FnSpec.of SBg_ok mixed (U := 7) (I := fun _ => []) Try.func46 rfl (by kernel_rfl) rfl rfl (by decide +kernel) ?_
  rintro ⟨c, ⟨n, el⟩, ⟨m, em⟩, ⟨⟩⟩ hpre
  obtain ⟨c, rfl⟩ := cel_ex c
  obtain ⟨lo, hi, rfl⟩ : ∃ lo hi : Nat → Int, el = fun k => (lo k, hi k, ()) := ⟨fun k => (el k).1, fun k => (el k).2.1, rfl⟩
  obtain ⟨bl, bh, rfl⟩ : ∃ bl bh : Nat → Int, em = fun k => (bl k, bh k, ()) := ⟨fun k => (em k).1, fun k => (em k).2.1, rfl⟩
  have hpre : CelMax c ∧ n ≤ maxLen ∧ m ≤ maxLen := by have : CelMax (celOf (celD c)) ∧ n ≤ maxLen ∧ m ≤ maxLen := hpre; rwa [celOf_D] at this
  obtain ⟨hc, hn, hm⟩ := hpre
  unfold FnSat
  conv => arg 2; reduce
  simp [chkS, posS, insC, ElEq, getB, goneB, aliveB, and_assoc]
  refine ⟨hc, hn, fun h => chkV_pos h, fun h => ⟨fun q => chkV_no h fun hb => q (by have := (boxB_iff.1 hb).1; omega), fun q => ⟨by omega, fun q0 => chkV_no h fun hb => ?_, fun q0 => ⟨by omega, fun q1 => chkV_no h fun hb => ?_, fun q1 => ⟨by omega, fun q2 => chkV_no h fun hb => ?_, fun q2 => ⟨by omega, fun q3 => chkV_no h fun hb => ?_, fun q3 => ⟨by omega, fun q4 => chkV_no h fun hb => ?_, fun q4 => chkV_ok h (boxB_iff.2 ⟨by omega, q0, q1, q2, q3, q4⟩)⟩⟩⟩⟩⟩⟩⟩
  · rw [(boxB_iff.1 hb).2.1] at q0; cases q0
  · rw [(boxB_iff.1 hb).2.2.1] at q1; cases q1
  · rw [(boxB_iff.1 hb).2.2.2.1] at q2; cases q2
  · rw [(boxB_iff.1 hb).2.2.2.2.1] at q3; cases q3
  · rw [(boxB_iff.1 hb).2.2.2.2.2] at q4; cases q4
@[irreducible] def sqL (a b : Int) : Int := if a ≤ 0 ∧ 0 ≤ b then 0 else min (a * a) (b * b)
@[irreducible] def sqH (a b : Int) : Int := max (a * a) (b * b)
def sqrS : Spec [spanSh] := ⟨fun (((a : Int), (b : Int), _), _) => (-1073741824 ≤ a ∧ a ≤ 1073741824) ∧ (-1073741824 ≤ b ∧ b ≤ 1073741824), fun (((a : Int), (b : Int), _), _) => .tup [.si .i64 (sqL a b), .si .i64 (sqH a b)]⟩
set_option maxRecDepth 100000 in
theorem sqr_ok : FnSpec Try.prog 97 _ sqrS := by
  refine FnSpec.of SBg0_ok mixed (U := 0) (I := fun _ => []) Try.func97 rfl (by kernel_rfl) rfl rfl (by decide +kernel) ?_
  rintro ⟨⟨(a : Int), (b : Int), ⟨⟩⟩, ⟨⟩⟩ ⟨ha, hb⟩
  unfold FnSat
  conv => arg 2; reduce
  simp [sqrS, hulS, decL, takeL, dropL, ElEq, getB, goneB, aliveB, and_assoc]
  have h1 := mulB (K := 1073741824) (L := 1073741824) ha ha
  have h2 := mulB (K := 1073741824) (L := 1073741824) hb hb
  have eh : ∀ v : Nat → Int, v 0 = a * a → v 1 = b * b → hhi 2 v = sqH a b := fun v e0 e1 => by rw [hhi2, e0, e1]; unfold sqH; rfl
  have el : ∀ v : Nat → Int, v 0 = a * a → v 1 = b * b → (a ≤ 0 → b < 0) → hlo 2 v = sqL a b := fun v e0 e1 hn => by rw [hlo2, e0, e1]; unfold sqL; rw [if_neg (by omega)]
  refine ⟨by omega, by omega, by omega, by omega, fun k hk => ?_, fun q1 q2 => ⟨by unfold sqL; rw [if_pos ⟨q1, q2⟩], eh _ rfl rfl⟩, fun q => ⟨el _ rfl rfl q, eh _ rfl rfl⟩⟩
  match k, hk with
  | 0, _ => simp [rowAt, takeL, dropL]
  | 1, _ => simp [rowAt, takeL, dropL]
end
end Abs
end Go.Proofs.Ytbfdmfplhphilaa

/- Cells with tolerances, by the program: a cell over a box, as a value; spread. -/
namespace Go.Proofs.Ytbfdmfplhphilaa
namespace Abs
open Go Go.RowKit
noncomputable section
attribute [local irreducible] FnSat
/-- a cell with tolerances over a box -/
structure Wid where
  a0 : Cel
  a1 : Cel
  a2 : Nat
  a3 : Nat → Int
  a4 : Nat → Int
  a5 : Int
  a6 : Int
  a7 : Int
  a8 : Int
  a9 : Int
  a10 : Int
@[irreducible] def Wid.lo (x : Wid) : Cel := x.a0
@[irreducible] def Wid.hi (x : Wid) : Cel := x.a1
@[irreducible] def Wid.n (x : Wid) : Nat := x.a2
@[irreducible] def Wid.bl (x : Wid) : Nat → Int := x.a3
@[irreducible] def Wid.bh (x : Wid) : Nat → Int := x.a4
@[irreducible] def Wid.wl (x : Wid) : Int := x.a5
@[irreducible] def Wid.wh (x : Wid) : Int := x.a6
@[irreducible] def Wid.fl (x : Wid) : Int := x.a7
@[irreducible] def Wid.fh (x : Wid) : Int := x.a8
@[irreducible] def Wid.rl (x : Wid) : Int := x.a9
@[irreducible] def Wid.rh (x : Wid) : Int := x.a10
@[reducible] def widCells : List Sh := [.int .i64, intsSh, intsSh, .int .i64, intsSh, intsSh, .int .i64, .int .i64, .int .i64, .int .i64, .int .i64, .int .i64, intsSh, intsSh, .int .i64, .int .i64, .int .i64, .int .i64, intsSh, intsSh, .int .i64, intsSh, intsSh, .int .i64, .int .i64, .int .i64, .int .i64, .int .i64, .int .i64, intsSh, intsSh, .int .i64, .int .i64, .int .i64, spansSh, .int .i64, .int .i64, .int .i64, .int .i64, .int .i64, .int .i64]
abbrev SpansD := Nat × (Nat → Int × Int × Unit)
abbrev WidD := Int × IntsD × IntsD × Int × IntsD × IntsD × Int × Int × Int × Int × Int × Int × IntsD × IntsD × Int × Int × Int × Int × IntsD × IntsD × Int × IntsD × IntsD × Int × Int × Int × Int × Int × Int × IntsD × IntsD × Int × Int × Int × SpansD × Int × Int × Int × Int × Int × Int × Unit
@[irreducible] def widOf (x : WidD) : Wid :=
  let (a0, a1, a2, a3, a4, a5, a6, a7, a8, a9, a10, a11, a12, a13, a14, a15, a16, b0, b1, b2, b3, b4, b5, b6, b7, b8, b9, b10, b11, b12, b13, b14, b15, b16, s, w0, w1, w2, w3, w4, w5, _) := x
  ⟨celOf (a0, a1, a2, a3, a4, a5, a6, a7, a8, a9, a10, a11, a12, a13, a14, a15, a16, ()), celOf (b0, b1, b2, b3, b4, b5, b6, b7, b8, b9, b10, b11, b12, b13, b14, b15, b16, ()), s.1, fun k => (s.2 k).1, fun k => (s.2 k).2.1, w0, w1, w2, w3, w4, w5⟩
@[reducible] def widD (x : Wid) : WidD := (x.lo.cap, (x.lo.ocv.nx, fun k => (x.lo.ocv.x k, ())), (x.lo.ocv.ny, fun k => (x.lo.ocv.y k, ())), x.lo.shift, (x.lo.cold.nx, fun k => (x.lo.cold.x k, ())), (x.lo.cold.ny, fun k => (x.lo.cold.y k, ())), x.lo.extra, x.lo.pair, x.lo.keep, x.lo.leak, x.lo.hcap, x.lo.cool, (x.lo.stress.nx, fun k => (x.lo.stress.x k, ())), (x.lo.stress.ny, fun k => (x.lo.stress.y k, ())), x.lo.cyc, x.lo.agel, x.lo.grow, x.hi.cap, (x.hi.ocv.nx, fun k => (x.hi.ocv.x k, ())), (x.hi.ocv.ny, fun k => (x.hi.ocv.y k, ())), x.hi.shift, (x.hi.cold.nx, fun k => (x.hi.cold.x k, ())), (x.hi.cold.ny, fun k => (x.hi.cold.y k, ())), x.hi.extra, x.hi.pair, x.hi.keep, x.hi.leak, x.hi.hcap, x.hi.cool, (x.hi.stress.nx, fun k => (x.hi.stress.x k, ())), (x.hi.stress.ny, fun k => (x.hi.stress.y k, ())), x.hi.cyc, x.hi.agel, x.hi.grow, (x.n, fun k => (x.bl k, x.bh k, ())), x.wl, x.wh, x.fl, x.fh, x.rl, x.rh, ())
@[simp] theorem widOf_mk (x : Wid) : widOf (x.lo.cap, (x.lo.ocv.nx, fun k => (x.lo.ocv.x k, ())), (x.lo.ocv.ny, fun k => (x.lo.ocv.y k, ())), x.lo.shift, (x.lo.cold.nx, fun k => (x.lo.cold.x k, ())), (x.lo.cold.ny, fun k => (x.lo.cold.y k, ())), x.lo.extra, x.lo.pair, x.lo.keep, x.lo.leak, x.lo.hcap, x.lo.cool, (x.lo.stress.nx, fun k => (x.lo.stress.x k, ())), (x.lo.stress.ny, fun k => (x.lo.stress.y k, ())), x.lo.cyc, x.lo.agel, x.lo.grow, x.hi.cap, (x.hi.ocv.nx, fun k => (x.hi.ocv.x k, ())), (x.hi.ocv.ny, fun k => (x.hi.ocv.y k, ())), x.hi.shift, (x.hi.cold.nx, fun k => (x.hi.cold.x k, ())), (x.hi.cold.ny, fun k => (x.hi.cold.y k, ())), x.hi.extra, x.hi.pair, x.hi.keep, x.hi.leak, x.hi.hcap, x.hi.cool, (x.hi.stress.nx, fun k => (x.hi.stress.x k, ())), (x.hi.stress.ny, fun k => (x.hi.stress.y k, ())), x.hi.cyc, x.hi.agel, x.hi.grow, (x.n, fun k => (x.bl k, x.bh k, ())), x.wl, x.wh, x.fl, x.fh, x.rl, x.rh, ()) = x := by
  unfold widOf
  simp only [celOf_mk]
  unfold Wid.lo Wid.hi Wid.n Wid.bl Wid.bh Wid.wl Wid.wh Wid.fl Wid.fh Wid.rl Wid.rh
  rfl
@[simp] theorem widOf_D (x : Wid) : widOf (widD x) = x := widOf_mk x
theorem wid_ex (x : Dat (.agg widCells)) : ∃ w : Wid, x = widD w := by
  obtain ⟨a0, a1, a2, a3, a4, a5, a6, a7, a8, a9, a10, a11, a12, a13, a14, a15, a16, b0, b1, b2, b3, b4, b5, b6, b7, b8, b9, b10, b11, b12, b13, b14, b15, b16, s, w0, w1, w2, w3, w4, w5, ⟨⟩⟩ := x
  obtain ⟨c, hc⟩ := cel_ex (a0, a1, a2, a3, a4, a5, a6, a7, a8, a9, a10, a11, a12, a13, a14, a15, a16, ())
  obtain ⟨d, hd⟩ := cel_ex (b0, b1, b2, b3, b4, b5, b6, b7, b8, b9, b10, b11, b12, b13, b14, b15, b16, ())
  refine ⟨⟨c, d, s.1, fun k => (s.2 k).1, fun k => (s.2 k).2.1, w0, w1, w2, w3, w4, w5⟩, ?_⟩
  simp only [celD, Prod.mk.injEq] at hc hd
  obtain ⟨rfl, rfl, rfl, rfl, rfl, rfl, rfl, rfl, rfl, rfl, rfl, rfl, rfl, rfl, rfl, rfl, rfl, -⟩ := hc
  obtain ⟨rfl, rfl, rfl, rfl, rfl, rfl, rfl, rfl, rfl, rfl, rfl, rfl, rfl, rfl, rfl, rfl, rfl, -⟩ := hd
  unfold widD Wid.lo Wid.hi Wid.n Wid.bl Wid.bh Wid.wl Wid.wh Wid.fl Wid.fh Wid.rl Wid.rh
  rfl
theorem encL_wid (x : Wid) : encL widCells (widD x) = [.si .i64 x.lo.cap, .slc (.sym x.lo.ocv.nx) 1 (fun k => [.si .i64 (x.lo.ocv.x k)]), .slc (.sym x.lo.ocv.ny) 1 (fun k => [.si .i64 (x.lo.ocv.y k)]), .si .i64 x.lo.shift, .slc (.sym x.lo.cold.nx) 1 (fun k => [.si .i64 (x.lo.cold.x k)]), .slc (.sym x.lo.cold.ny) 1 (fun k => [.si .i64 (x.lo.cold.y k)]), .si .i64 x.lo.extra, .si .i64 x.lo.pair, .si .i64 x.lo.keep, .si .i64 x.lo.leak, .si .i64 x.lo.hcap, .si .i64 x.lo.cool, .slc (.sym x.lo.stress.nx) 1 (fun k => [.si .i64 (x.lo.stress.x k)]), .slc (.sym x.lo.stress.ny) 1 (fun k => [.si .i64 (x.lo.stress.y k)]), .si .i64 x.lo.cyc, .si .i64 x.lo.agel, .si .i64 x.lo.grow, .si .i64 x.hi.cap, .slc (.sym x.hi.ocv.nx) 1 (fun k => [.si .i64 (x.hi.ocv.x k)]), .slc (.sym x.hi.ocv.ny) 1 (fun k => [.si .i64 (x.hi.ocv.y k)]), .si .i64 x.hi.shift, .slc (.sym x.hi.cold.nx) 1 (fun k => [.si .i64 (x.hi.cold.x k)]), .slc (.sym x.hi.cold.ny) 1 (fun k => [.si .i64 (x.hi.cold.y k)]), .si .i64 x.hi.extra, .si .i64 x.hi.pair, .si .i64 x.hi.keep, .si .i64 x.hi.leak, .si .i64 x.hi.hcap, .si .i64 x.hi.cool, .slc (.sym x.hi.stress.nx) 1 (fun k => [.si .i64 (x.hi.stress.x k)]), .slc (.sym x.hi.stress.ny) 1 (fun k => [.si .i64 (x.hi.stress.y k)]), .si .i64 x.hi.cyc, .si .i64 x.hi.agel, .si .i64 x.hi.grow, .slc (.sym x.n) 2 (fun k => [.si .i64 (x.bl k), .si .i64 (x.bh k)]), .si .i64 x.wl, .si .i64 x.wh, .si .i64 x.fl, .si .i64 x.fh, .si .i64 x.rl, .si .i64 x.rh] := rfl
@[irreducible] def wdWL (c : Cel) (bl : Nat → Int) : Int := wearV c (bl 3) (bl 4)
@[irreducible] def wdFL (c : Cel) (hi bl bh : Nat → Int) : Int := pcV (bl 0) (roomV (mvC c hi) (wdWL c bl))
@[irreducible] def wdFH (c : Cel) (lo bl bh : Nat → Int) : Int := pcV (bh 0) (roomV (mvC c lo) (wdWL c bh))
@[irreducible] def wdRL (c : Cel) (lo bl bh : Nat → Int) : Int := resV (mvC c lo) (bh 2) (wdWL c bl)
@[irreducible] def wdRH (c : Cel) (hi bl bh : Nat → Int) : Int := resV (mvC c hi) (bl 2) (wdWL c bh)
@[irreducible] def widV (c : Cel) (lo hi : Nat → Int) (m : Nat) (bl bh : Nat → Int) : Wid := ⟨mvC c lo, mvC c hi, m, bl, bh, wdWL c bl, wdWL c bh, wdFL c hi bl bh, wdFH c lo bl bh, wdRL c lo bl bh, wdRH c hi bl bh⟩
theorem widV_lo (c : Cel) (lo hi : Nat → Int) (m : Nat) (bl bh : Nat → Int) : (widV c lo hi m bl bh).lo = mvC c lo := by unfold widV Wid.lo; rfl
theorem widV_hi (c : Cel) (lo hi : Nat → Int) (m : Nat) (bl bh : Nat → Int) : (widV c lo hi m bl bh).hi = mvC c hi := by unfold widV Wid.hi; rfl
theorem widV_n (c : Cel) (lo hi : Nat → Int) (m : Nat) (bl bh : Nat → Int) : (widV c lo hi m bl bh).n = m := by unfold widV Wid.n; rfl
theorem widV_bl (c : Cel) (lo hi : Nat → Int) (m : Nat) (bl bh : Nat → Int) : (widV c lo hi m bl bh).bl = bl := by unfold widV Wid.bl; rfl
theorem widV_bh (c : Cel) (lo hi : Nat → Int) (m : Nat) (bl bh : Nat → Int) : (widV c lo hi m bl bh).bh = bh := by unfold widV Wid.bh; rfl
theorem widV_wl (c : Cel) (lo hi : Nat → Int) (m : Nat) (bl bh : Nat → Int) : (widV c lo hi m bl bh).wl = wdWL c bl := by unfold widV Wid.wl; rfl
theorem widV_wh (c : Cel) (lo hi : Nat → Int) (m : Nat) (bl bh : Nat → Int) : (widV c lo hi m bl bh).wh = wdWL c bh := by unfold widV Wid.wh; rfl
theorem widV_fl (c : Cel) (lo hi : Nat → Int) (m : Nat) (bl bh : Nat → Int) : (widV c lo hi m bl bh).fl = wdFL c hi bl bh := by unfold widV Wid.fl; rfl
theorem widV_fh (c : Cel) (lo hi : Nat → Int) (m : Nat) (bl bh : Nat → Int) : (widV c lo hi m bl bh).fh = wdFH c lo bl bh := by unfold widV Wid.fh; rfl
theorem widV_rl (c : Cel) (lo hi : Nat → Int) (m : Nat) (bl bh : Nat → Int) : (widV c lo hi m bl bh).rl = wdRL c lo bl bh := by unfold widV Wid.rl; rfl
theorem widV_rh (c : Cel) (lo hi : Nat → Int) (m : Nat) (bl bh : Nat → Int) : (widV c lo hi m bl bh).rh = wdRH c hi bl bh := by unfold widV Wid.rh; rfl
noncomputable def SBh : Sums := ⟨SBg0.one, SBg0.two, SBg0.lo, SBg0.eqs, SBg0.its, [26]⟩
theorem SBh_ok : SumsOK Try.prog SBh := SBg0_ok.setImm _
def sprS : SpecN [celSh, spansSh, spansSh] := ⟨fun (c, (n, el), (m, em), _) => posV (celOf c) n (fun k => (el k).1) (fun k => (el k).2.1) = 0 ∧ boxB m (fun k => (em k).1) (fun k => (em k).2.1) = true,
  fun _ => .own 0 0, fun (c, (_, el), (m, em), _) => [.cells 97 (encL widCells (widD (widV (celOf c) (fun k => (el k).1) (fun k => (el k).2.1) m (fun k => (em k).1) (fun k => (em k).2.1))))]⟩
set_option maxRecDepth 100000 in
set_option maxHeartbeats 4000000 in
theorem spr_ok : FnSpecN Try.prog 48 _ sprS := by
  refine FnSpecN.of SBh_ok mixed (U := 0) (I := fun _ => []) Try.func48 rfl (by kernel_rfl) rfl rfl (by decide +kernel) ?_
  rintro ⟨c, ⟨n, el⟩, ⟨m, em⟩, ⟨⟩⟩ hpre
  obtain ⟨c, rfl⟩ := cel_ex c
  obtain ⟨lo, hi, rfl⟩ : ∃ lo hi : Nat → Int, el = fun k => (lo k, hi k, ()) := ⟨fun k => (el k).1, fun k => (el k).2.1, rfl⟩
  obtain ⟨bl, bh, rfl⟩ : ∃ bl bh : Nat → Int, em = fun k => (bl k, bh k, ()) := ⟨fun k => (em k).1, fun k => (em k).2.1, rfl⟩
  have hpre : posV c n lo hi = 0 ∧ boxB m bl bh = true := by have : posV (celOf (celD c)) n lo hi = 0 ∧ boxB m bl bh = true := hpre; rwa [celOf_D] at this
  obtain ⟨h1, h2⟩ := hpre
  obtain ⟨hc, hv, hl, hh⟩ := posV_zero.1 h1
  obtain ⟨rfl, b0, b1, b2, b3, b4⟩ := boxB_iff.1 h2
  obtain ⟨rfl, ho, ho2⟩ := vldB_ofs hv
  unfold FnSat
  conv => arg 2; reduce
  simp [sprS, endS, wearS, roomS, pcS, resS, celOf_mv, encL_wid, widV_lo, widV_hi, widV_n, widV_bl, widV_bh, widV_wl, widV_wh, widV_fl, widV_fh, widV_rl, widV_rh, ElEq, getB, goneB, aliveB, and_assoc]
  have hk := celB_iff.1 hc
  have kl := celB_iff.1 hl
  have kh := celB_iff.1 hh
  obtain ⟨c0, c1, c2⟩ := insV_iff.1 b0
  obtain ⟨d0, d1, d2⟩ := insV_iff.1 b2
  obtain ⟨e0, e1, e2⟩ := insV_iff.1 b3
  obtain ⟨f0, f1, f2⟩ := insV_iff.1 b4
  have w1 : WearOK c (bl 3) (bl 4) := ⟨hk.cy0, hk.cy1, hk.al0, hk.al1, e0, by omega, f0, by omega⟩
  have w2 : WearOK c (bh 3) (bh 4) := ⟨hk.cy0, hk.cy1, hk.al0, hk.al1, by omega, by omega, by omega, by omega⟩
  have v1 := wearV_in w1
  have v2 := wearV_in w2
  have r1 := @roomV_in (mvC c hi) (wearV c (bl 3) (bl 4))
  have r2 := @roomV_in (mvC c lo) (wearV c (bh 3) (bh 4))
  have l0 := kl.cap0
  have l1 := kl.cap1
  have u0 := kh.cap0
  have u1 := kh.cap1
  rw [mvC_cap] at l0 l1 u0 u1
  refine ⟨hc, ho, ho2, w1, w2, by omega, by omega, by omega, by omega, by omega, by omega, r1.1, by omega, by omega, by omega, by omega, by omega, by omega, r2.1, hl, by omega, by omega, by omega, by omega, hh, by omega, by omega, by omega, by omega, ?_⟩
  unfold wdFL wdFH wdRL wdRH wdWL
  exact ⟨rfl, rfl, rfl, rfl, rfl, rfl⟩
noncomputable def SBj : Sums := ⟨(48, mkSumN _ sprS) :: SBh.one, SBh.two, SBh.lo, SBh.eqs, SBh.its, SBh.imm⟩
theorem SBj_ok : SumsOK Try.prog SBj := (SBh_ok.add Try.func48 (by kernel_rfl) (by kernel_rfl) (mkSumN_ok spr_ok))
noncomputable def SBk : Sums := ⟨SBj.one, SBj.two, SBj.lo, SBj.eqs, SBj.its, SRg.imm⟩
theorem SBk_ok : SumsOK Try.prog SBk := SBj_ok.setImm _
end
end Abs
end Go.Proofs.Ytbfdmfplhphilaa

/- Cells with tolerances, by the program: the voltage, the heat, the temperature over a box. -/
namespace Go.Proofs.Ytbfdmfplhphilaa
namespace Abs
open Go Go.RowKit
noncomputable section
attribute [local irreducible] FnSat
structure WidOK (x : Wid) : Prop where
  lo : celB x.lo = true
  hi : celB x.hi = true
  n : x.n = 5
  bx : boxB 5 x.bl x.bh = true
  pr : x.lo.pair ≤ x.hi.pair
  f0 : 0 ≤ x.fl
  f1 : x.fl ≤ 65536
  g0 : 0 ≤ x.fh
  g1 : x.fh ≤ 65536
  r0 : 0 ≤ x.rl
  r1 : x.rl ≤ 1048576
  s0 : 0 ≤ x.rh
  s1 : x.rh ≤ 1048576
structure BoxOK (l h : Nat → Int) : Prop where
  q0 : 0 ≤ l 0
  q1 : l 0 ≤ h 0
  q2 : h 0 ≤ 4294967296
  x0 : -8388608 ≤ l 1
  x1 : l 1 ≤ h 1
  x2 : h 1 ≤ 8388608
  t0 : 0 ≤ l 2
  t1 : l 2 ≤ h 2
  t2 : h 2 ≤ 400000
  h0 : 0 ≤ l 3
  h1 : l 3 ≤ h 3
  h2 : h 3 ≤ 1099511627776
  a0 : 0 ≤ l 4
  a1 : l 4 ≤ h 4
  a2 : h 4 ≤ 1099511627776
theorem boxB_ok {l h : Nat → Int} : boxB 5 l h = true ↔ BoxOK l h := by
  rw [boxB_iff]
  simp only [insV_iff]
  constructor
  · rintro ⟨-, ⟨a, b, c⟩, ⟨d, e, f⟩, ⟨g, i, j⟩, ⟨k, m, n⟩, ⟨o, p, q⟩⟩
    exact ⟨a, b, c, d, e, f, g, i, j, k, m, n, o, p, q⟩
  · intro h
    exact ⟨trivial, ⟨h.q0, h.q1, h.q2⟩, ⟨h.x0, h.x1, h.x2⟩, ⟨h.t0, h.t1, h.t2⟩, ⟨h.h0, h.h1, h.h2⟩, ⟨h.a0, h.a1, h.a2⟩⟩
@[irreducible] def prL (a b c d : Int) : Int := min (min (a * c) (a * d)) (min (b * c) (b * d))
@[irreducible] def prH (a b c d : Int) : Int := max (max (a * c) (a * d)) (max (b * c) (b * d))
def proS' : Spec [spanSh, spanSh] := ⟨fun (((a : Int), (b : Int), _), ((c : Int), (d : Int), _), _) => (-1099511627776 ≤ a ∧ a ≤ 1099511627776) ∧ (-1099511627776 ≤ b ∧ b ≤ 1099511627776) ∧ (-4194304 ≤ c ∧ c ≤ 4194304) ∧ (-4194304 ≤ d ∧ d ≤ 4194304),
  fun (((a : Int), (b : Int), _), ((c : Int), (d : Int), _), _) => .tup [.si .i64 (prL a b c d), .si .i64 (prH a b c d)]⟩
theorem pro_ok' : FnSpec Try.prog 69 _ proS' := by
  have e : proS' = proS := by
    unfold proS' proS
    congr 1
    funext x
    obtain ⟨⟨a, b, _⟩, ⟨c, d, _⟩, _⟩ := x
    show AV.tup [.si .i64 (prL a b c d), .si .i64 (prH a b c d)] = _
    unfold prL prH
    rfl
  rw [e]; exact pro_ok
theorem prB {a b c d K L : Int} (ha : -K ≤ a ∧ a ≤ K) (hb : -K ≤ b ∧ b ≤ K) (hc : -L ≤ c ∧ c ≤ L) (hd : -L ≤ d ∧ d ≤ L) : -(K * L) ≤ prL a b c d ∧ prL a b c d ≤ prH a b c d ∧ prH a b c d ≤ K * L := by
  have h1 := mulB ha hc
  have h2 := mulB ha hd
  have h3 := mulB hb hc
  have h4 := mulB hb hd
  unfold prL prH
  omega
theorem sqB {a b K : Int} (hK : 0 ≤ K) (h0 : -K ≤ a) (h1 : a ≤ b) (h2 : b ≤ K) : 0 ≤ sqL a b ∧ sqL a b ≤ sqH a b ∧ sqH a b ≤ K * K := by
  have m1 := sq_in (a := a) (A := K) h0 (by omega)
  have m2 := sq_in (a := b) (A := K) (by omega) h2
  unfold sqL sqH
  split <;> omega
@[irreducible] def wvL (x : Wid) (a b : Int) : Int := openV x.lo x.fl - x.bh 1 - dvI (prH a b x.rl x.rh) 1000
@[irreducible] def wvH (x : Wid) (a b : Int) : Int := openV x.hi x.fh - x.bl 1 - dvI (prL a b x.rl x.rh) 1000
@[irreducible] def whL (x : Wid) (a b : Int) : Int := dvI (sqL a b * x.rl) 1000000000 + (if 0 < x.lo.pair then dvI (sqL (x.bl 1) (x.bh 1)) (1000 * x.hi.pair) else 0)
@[irreducible] def whH (x : Wid) (a b : Int) : Int := dvI (sqH a b * x.rh) 1000000000 + (if 0 < x.hi.pair then dvI (sqH (x.bl 1) (x.bh 1)) (1000 * max 1 x.lo.pair) else 0)
@[irreducible] def wtL (x : Wid) (a b u v : Int) : Int := clipV (x.bl 2 + dvI (1000 * whL x a b) x.hi.hcap + min (dvI ((u - x.bl 2) * x.lo.cool) 65536) (dvI ((u - x.bl 2) * x.hi.cool) 65536)) 0 400000
@[irreducible] def wtH (x : Wid) (a b u v : Int) : Int := clipV (x.bh 2 + dvI (1000 * whH x a b) x.lo.hcap + max (dvI ((v - x.bh 2) * x.lo.cool) 65536) (dvI ((v - x.bh 2) * x.hi.cool) 65536)) 0 400000
noncomputable def SBl : Sums := ⟨(97, mkSum _ sqrS) :: (69, mkSum _ proS') :: SBk.one, SBk.two, SBk.lo, SBk.eqs, SBk.its, SBk.imm⟩
theorem SBl_ok : SumsOK Try.prog SBl := ((SBk_ok.cons Try.func69 (by kernel_rfl) (by kernel_rfl) pro_ok').cons Try.func97 (by kernel_rfl) (by kernel_rfl) sqr_ok)
def wvS : Spec [.ptr widCells, spanSh] := ⟨fun (x, ((a : Int), (b : Int), _), _) => WidOK (widOf x) ∧ insV (-1048576) a b 1048576 = true, fun (x, ((a : Int), (b : Int), _), _) => .agg [.si .i64 (wvL (widOf x) a b), .si .i64 (wvH (widOf x) a b)]⟩
theorem open_in {c : Cel} {f : Int} (hc : celB c = true) : -8388608 ≤ openV c f ∧ openV c f ≤ 16777216 := by
  have hk := celB_iff.1 hc
  have := sc_val hk.ocv f
  have := hk.sh0
  have := hk.sh1
  unfold openV
  omega
set_option maxRecDepth 100000 in
set_option maxHeartbeats 4000000 in
theorem wv_ok : FnSpec Try.prog 49 _ wvS := by
  refine FnSpec.of SBl_ok mixed (U := 0) (I := fun _ => []) Try.func49 rfl (by kernel_rfl) rfl rfl (by decide +kernel) ?_
  rintro ⟨x, ⟨(a : Int), (b : Int), ⟨⟩⟩, ⟨⟩⟩ hpre
  obtain ⟨x, rfl⟩ := wid_ex x
  have hpre : WidOK x ∧ insV (-1048576) a b 1048576 = true := by have : WidOK (widOf (widD x)) ∧ insV (-1048576) a b 1048576 = true := hpre; rwa [widOf_D] at this
  obtain ⟨h, hi⟩ := hpre
  unfold FnSat
  conv => arg 2; reduce
  simp [wvS, proS', openS, divS, ElEq, getB, goneB, aliveB, and_assoc]
  obtain ⟨i0, i1, i2⟩ := insV_iff.1 hi
  have hb := boxB_ok.1 h.bx
  have := h.n
  have o1 := open_in (f := x.fl) h.lo
  have o2 := open_in (f := x.fh) h.hi
  have := h.f0
  have := h.f1
  have := h.g0
  have := h.g1
  have := h.r0
  have := h.r1
  have := h.s0
  have := h.s1
  have := hb.x0
  have := hb.x1
  have := hb.x2
  have hp := prB (a := a) (b := b) (c := x.rl) (d := x.rh) (K := 1048576) (L := 1048576) (by omega) (by omega) (by omega) (by omega)
  have d1 := dvI_ge (a := prL a b x.rl x.rh) (d := 1000) (m := -1099511628) (by decide) (by omega)
  have d2 := dvI_le (a := prH a b x.rl x.rh) (d := 1000) (m := 1099511628) (by decide) (by omega)
  have d3 := dvI_mono (a := prL a b x.rl x.rh) (b := prH a b x.rl x.rh) (d := 1000) (by decide) hp.2.1
  have el : wvL x a b = openV x.lo x.fl - x.bh 1 - dvI (prH a b x.rl x.rh) 1000 := by unfold wvL; rfl
  have eh : wvH x a b = openV x.hi x.fh - x.bl 1 - dvI (prL a b x.rl x.rh) 1000 := by unfold wvH; rfl
  rw [el, eh]
  have l1 := h.lo
  have l2 := h.hi
  repeat' (first | refine And.intro ?_ ?_ | intro _)
  all_goals first | omega | rfl | assumption
theorem wh_parts {x : Wid} {a b : Int} (h : WidOK x) (hi : insV (-1048576) a b 1048576 = true) :
    0 ≤ sqL a b * x.rl ∧ sqL a b * x.rl ≤ 1152921504606846976 ∧ 0 ≤ sqH a b * x.rh ∧ sqH a b * x.rh ≤ 1152921504606846976 ∧
    (0 ≤ dvI (sqL a b * x.rl) 1000000000 ∧ dvI (sqL a b * x.rl) 1000000000 ≤ 1152921505) ∧ (0 ≤ dvI (sqH a b * x.rh) 1000000000 ∧ dvI (sqH a b * x.rh) 1000000000 ≤ 1152921505) ∧
    (0 ≤ sqL (x.bl 1) (x.bh 1) ∧ sqL (x.bl 1) (x.bh 1) ≤ 70368744177664) ∧ (0 ≤ sqH (x.bl 1) (x.bh 1) ∧ sqH (x.bl 1) (x.bh 1) ≤ 70368744177664) ∧
    (0 ≤ dvI (sqH (x.bl 1) (x.bh 1)) (1000 * max 1 x.lo.pair) ∧ dvI (sqH (x.bl 1) (x.bh 1)) (1000 * max 1 x.lo.pair) ≤ 70368744177664) ∧
    (1 ≤ x.hi.pair → 0 ≤ dvI (sqL (x.bl 1) (x.bh 1)) (1000 * x.hi.pair) ∧ dvI (sqL (x.bl 1) (x.bh 1)) (1000 * x.hi.pair) ≤ 70368744177664) := by
  obtain ⟨i0, i1, i2⟩ := insV_iff.1 hi
  have hb := boxB_ok.1 h.bx
  have q1 := sqB (a := a) (b := b) (K := 1048576) (by decide) (by omega) (by omega) (by omega)
  have q2 := sqB (a := x.bl 1) (b := x.bh 1) (K := 8388608) (by decide) hb.x0 hb.x1 hb.x2
  have m1 := mul_in (a := sqL a b) (b := x.rl) (A := 1099511627776) (B := 1048576) q1.1 (by omega) h.r0 h.r1
  have m2 := mul_in (a := sqH a b) (b := x.rh) (A := 1099511627776) (B := 1048576) (by omega) (by omega) h.s0 h.s1
  have d1 := dvI_nonneg (a := sqL a b * x.rl) (d := 1000000000) (by decide) m1.1
  have d2 := dvI_le (a := sqL a b * x.rl) (d := 1000000000) (m := 1152921505) (by decide) (by omega)
  have d3 := dvI_nonneg (a := sqH a b * x.rh) (d := 1000000000) (by decide) m2.1
  have d4 := dvI_le (a := sqH a b * x.rh) (d := 1000000000) (m := 1152921505) (by decide) (by omega)
  have d5 := dvI_nonneg (a := sqH (x.bl 1) (x.bh 1)) (d := 1000 * max 1 x.lo.pair) (by omega) (by omega)
  have d6 := dvI_le (a := sqH (x.bl 1) (x.bh 1)) (d := 1000 * max 1 x.lo.pair) (m := 70368744177664) (by omega) (by omega)
  refine ⟨m1.1, by omega, m2.1, by omega, ⟨d1, d2⟩, ⟨d3, d4⟩, by omega, by omega, ⟨d5, d6⟩, fun hp => ?_⟩
  exact ⟨dvI_nonneg (by omega) (by omega), dvI_le (by omega) (by omega)⟩
theorem wh_b {x : Wid} {a b : Int} (h : WidOK x) (hi : insV (-1048576) a b 1048576 = true) : (0 ≤ whL x a b ∧ whL x a b ≤ 70369897099169) ∧ 0 ≤ whH x a b ∧ whH x a b ≤ 70369897099169 := by
  obtain ⟨p1, p2, p3, p4, p5, p6, p7, p8, p9, p10⟩ := wh_parts h hi
  have := h.pr
  unfold whL whH
  constructor
  · split
    · have := p10 (by omega); omega
    · omega
  · split <;> omega
def whS : Spec [.ptr widCells, spanSh] := ⟨fun (x, ((a : Int), (b : Int), _), _) => WidOK (widOf x) ∧ insV (-1048576) a b 1048576 = true, fun (x, ((a : Int), (b : Int), _), _) => .tup [.si .i64 (whL (widOf x) a b), .si .i64 (whH (widOf x) a b)]⟩
set_option maxRecDepth 100000 in
set_option maxHeartbeats 4000000 in
theorem wh_ok : FnSpec Try.prog 89 _ whS := by
  refine FnSpec.of SBl_ok mixed (U := 0) (I := fun _ => []) Try.func89 rfl (by kernel_rfl) rfl rfl (by decide +kernel) ?_
  rintro ⟨x, ⟨(a : Int), (b : Int), ⟨⟩⟩, ⟨⟩⟩ hpre
  obtain ⟨x, rfl⟩ := wid_ex x
  have hpre : WidOK x ∧ insV (-1048576) a b 1048576 = true := by have : WidOK (widOf (widD x)) ∧ insV (-1048576) a b 1048576 = true := hpre; rwa [widOf_D] at this
  obtain ⟨h, hi⟩ := hpre
  unfold FnSat
  conv => arg 2; reduce
  simp [whS, sqrS, divS, ElEq, getB, goneB, aliveB, and_assoc]
  obtain ⟨i0, i1, i2⟩ := insV_iff.1 hi
  have hb := boxB_ok.1 h.bx
  have := h.n
  have := hb.x0
  have := hb.x1
  have := hb.x2
  have := (celB_iff.1 h.lo).pr0
  have := (celB_iff.1 h.lo).pr1
  have := (celB_iff.1 h.hi).pr1
  have := h.pr
  obtain ⟨p1, p2, p3, p4, p5, p6, p7, p8, p9, p10⟩ := wh_parts h hi
  have c1 : 0 < x.lo.pair → whL x a b = dvI (sqL a b * x.rl) 1000000000 + dvI (sqL (x.bl 1) (x.bh 1)) (1000 * x.hi.pair) := fun q => by unfold whL; rw [if_pos q]
  have c2 : x.lo.pair ≤ 0 → whL x a b = dvI (sqL a b * x.rl) 1000000000 := fun q => by unfold whL; rw [if_neg (by omega), Int.add_zero]
  have c3 : 0 < x.hi.pair → whH x a b = dvI (sqH a b * x.rh) 1000000000 + dvI (sqH (x.bl 1) (x.bh 1)) (1000 * max 1 x.lo.pair) := fun q => by unfold whH; rw [if_pos q]
  have c4 : x.hi.pair ≤ 0 → whH x a b = dvI (sqH a b * x.rh) 1000000000 := fun q => by unfold whH; rw [if_neg (by omega), Int.add_zero]
  refine ⟨by omega, by omega, by omega, by omega, by omega, by omega, by omega, by omega, by omega, by omega, by omega, by omega, by omega, by omega, by omega, by omega, by omega, fun q => ?_, fun q => ?_⟩
  · have := p10 (by omega)
    refine ⟨by omega, by omega, by omega, by omega, by omega, by omega, by omega, fun q' => ?_, fun q' => by omega⟩
    exact ⟨by omega, by omega, by omega, by omega, by omega, by omega, by omega, (c1 q).symm, (c3 q').symm⟩
  · refine ⟨fun q' => ?_, fun q' => ⟨(c2 q).symm, (c4 q').symm⟩⟩
    exact ⟨by omega, by omega, by omega, by omega, by omega, by omega, by omega, (c2 q).symm, (c3 q').symm⟩
noncomputable def SBm : Sums := ⟨(89, mkSum _ whS) :: (49, mkSum _ wvS) :: SBl.one, SBl.two, SBl.lo, SBl.eqs, SBl.its, SBl.imm⟩
theorem SBm_ok : SumsOK Try.prog SBm := ((SBl_ok.cons Try.func49 (by kernel_rfl) (by kernel_rfl) wv_ok).cons Try.func89 (by kernel_rfl) (by kernel_rfl) wh_ok)
def wtS : Spec [.ptr widCells, spanSh, spanSh] := ⟨fun (x, ((a : Int), (b : Int), _), ((u : Int), (v : Int), _), _) => WidOK (widOf x) ∧ insV (-1048576) a b 1048576 = true ∧ insV 0 u v 400000 = true,
  fun (x, ((a : Int), (b : Int), _), ((u : Int), (v : Int), _), _) => .agg [.si .i64 (wtL (widOf x) a b u v), .si .i64 (wtH (widOf x) a b u v)]⟩
set_option maxRecDepth 100000 in
set_option maxHeartbeats 4000000 in
theorem wt_ok : FnSpec Try.prog 73 _ wtS := by
  refine FnSpec.of SBm_ok mixed (U := 0) (I := fun _ => []) Try.func73 rfl (by kernel_rfl) rfl rfl (by decide +kernel) ?_
  rintro ⟨x, ⟨(a : Int), (b : Int), ⟨⟩⟩, ⟨(u : Int), (v : Int), ⟨⟩⟩, ⟨⟩⟩ hpre
  obtain ⟨x, rfl⟩ := wid_ex x
  have hpre : WidOK x ∧ insV (-1048576) a b 1048576 = true ∧ insV 0 u v 400000 = true := by have : WidOK (widOf (widD x)) ∧ insV (-1048576) a b 1048576 = true ∧ insV 0 u v 400000 = true := hpre; rwa [widOf_D] at this
  obtain ⟨h, hi, hu⟩ := hpre
  unfold FnSat
  conv => arg 2; reduce
  simp [wtS, whS, divS, hulS, clipS, decL, takeL, dropL, ElEq, getB, goneB, aliveB, and_assoc]
  obtain ⟨i0, i1, i2⟩ := insV_iff.1 hi
  have hb := boxB_ok.1 h.bx
  have el : ∀ (A B : Int) (v : Nat → Int), v 0 = A → v 1 = B → hlo 2 v = min A B := fun A B v e0 e1 => by rw [hlo2, e0, e1]
  have eh : ∀ (A B : Int) (v : Nat → Int), v 0 = A → v 1 = B → hhi 2 v = max A B := fun A B v e0 e1 => by rw [hhi2, e0, e1]
  generalize hz : hlo 2 _ = z
  generalize hy : hhi 2 _ = y
  have hz' : z = min (dvI ((u - x.bl 2) * x.lo.cool) 65536) (dvI ((u - x.bl 2) * x.hi.cool) 65536) := by rw [← hz]; exact el _ _ _ rfl rfl
  have hy' : y = max (dvI ((v - x.bh 2) * x.lo.cool) 65536) (dvI ((v - x.bh 2) * x.hi.cool) 65536) := by rw [← hy]; exact eh _ _ _ rfl rfl
  clear hz hy
  obtain ⟨u0, u1, u2⟩ := insV_iff.1 hu
  have := h.n
  have := hb.t0
  have := hb.t1
  have := hb.t2
  have kl := celB_iff.1 h.lo
  have kh := celB_iff.1 h.hi
  have m1 := mul_ab (a := u - x.bl 2) (b := x.lo.cool) (A := 400000) (B := 65536) (by omega) (by omega) kl.co0 kl.co1
  have m2 := mul_ab (a := u - x.bl 2) (b := x.hi.cool) (A := 400000) (B := 65536) (by omega) (by omega) kh.co0 kh.co1
  have m3 := mul_ab (a := v - x.bh 2) (b := x.lo.cool) (A := 400000) (B := 65536) (by omega) (by omega) kl.co0 kl.co1
  have m4 := mul_ab (a := v - x.bh 2) (b := x.hi.cool) (A := 400000) (B := 65536) (by omega) (by omega) kh.co0 kh.co1
  have d1 := dvI_ge (a := (u - x.bl 2) * x.lo.cool) (d := 65536) (m := -400000) (by decide) (by omega)
  have d2 := dvI_ge (a := (u - x.bl 2) * x.hi.cool) (d := 65536) (m := -400000) (by decide) (by omega)
  have d3 := dvI_ge (a := (v - x.bh 2) * x.lo.cool) (d := 65536) (m := -400000) (by decide) (by omega)
  have d4 := dvI_ge (a := (v - x.bh 2) * x.hi.cool) (d := 65536) (m := -400000) (by decide) (by omega)
  have d5 := dvI_le (a := (u - x.bl 2) * x.lo.cool) (d := 65536) (m := 400000) (by decide) (by omega)
  have d6 := dvI_le (a := (u - x.bl 2) * x.hi.cool) (d := 65536) (m := 400000) (by decide) (by omega)
  have d7 := dvI_le (a := (v - x.bh 2) * x.lo.cool) (d := 65536) (m := 400000) (by decide) (by omega)
  have d8 := dvI_le (a := (v - x.bh 2) * x.hi.cool) (d := 65536) (m := 400000) (by decide) (by omega)
  obtain ⟨w1, w2⟩ := wh_b h hi
  have := kl.hc0
  have := kh.hc0
  have g1 := dvI_nonneg (a := 1000 * whL x a b) (d := x.hi.hcap) (by omega) (by omega)
  have g2 := dvI_le (a := 1000 * whL x a b) (d := x.hi.hcap) (m := 70369897099169000) (by omega) (by omega)
  have g3 := dvI_nonneg (a := 1000 * whH x a b) (d := x.lo.hcap) (by omega) (by omega)
  have g4 := dvI_le (a := 1000 * whH x a b) (d := x.lo.hcap) (m := 70369897099169000) (by omega) (by omega)
  have row : ∀ (A B : Int) (k : Nat), k < 2 → CanL [.int .i64] (rowAt 1 [.si .i64 A, .si .i64 B] k) := fun A B k hk => by
    match k, hk with
    | 0, _ => simp [rowAt, takeL, dropL]
    | 1, _ => simp [rowAt, takeL, dropL]
  have eL : wtL x a b u v = clipV (x.bl 2 + dvI (1000 * whL x a b) x.hi.hcap + z) 0 400000 := by rw [hz']; unfold wtL; rfl
  have eH : wtH x a b u v = clipV (x.bh 2 + dvI (1000 * whH x a b) x.lo.hcap + y) 0 400000 := by rw [hy']; unfold wtH; rfl
  have zb : -400000 ≤ z ∧ z ≤ 400000 := by omega
  have yb : -400000 ≤ y ∧ y ≤ 400000 := by omega
  clear hz' hy'
  rw [eL, eH]
  repeat' (first | refine And.intro ?_ ?_ | intro _)
  all_goals first | assumption | omega | rfl | exact row _ _ _ ‹_›
noncomputable def SBn : Sums := ⟨(73, mkSum _ wtS) :: SBm.one, SBm.two, SBm.lo, SBm.eqs, SBm.its, SBm.imm⟩
theorem SBn_ok : SumsOK Try.prog SBn := (SBm_ok.cons Try.func73 (by kernel_rfl) (by kernel_rfl) wt_ok)
/-- the next box -/
@[irreducible] def nbTL (x : Wid) (a b : Int) : Int := x.bl 3 + max (max 0 a) (-b)
@[irreducible] def nbTH (x : Wid) (a b : Int) : Int := x.bh 3 + max b (-a)
@[irreducible] def nbAL (x : Wid) : Int := x.bl 4 + valL x.lo.stress (x.bl 2)
@[irreducible] def nbAH (x : Wid) : Int := x.bh 4 + valL x.lo.stress (x.bh 2)
@[irreducible] def nbRL (x : Wid) (a b : Int) : Int := slackV x.lo (x.bl 1) (prL a b x.lo.pair x.hi.pair)
@[irreducible] def nbRH (x : Wid) (a b : Int) : Int := slackV x.lo (x.bh 1) (prH a b x.lo.pair x.hi.pair)
@[irreducible] def nbQL (x : Wid) (a b : Int) : Int := clipV (x.bl 0 - b - x.hi.leak) 0 (roomV x.lo (wearV x.lo (nbTH x a b) (nbAH x)))
@[irreducible] def nbQH (x : Wid) (a b : Int) : Int := clipV (x.bh 0 - a - x.lo.leak) 0 (roomV x.hi (wearV x.lo (nbTL x a b) (nbAL x)))
@[irreducible] def nbL (x : Wid) (a b u v : Int) (k : Nat) : Int := match k with | 0 => nbQL x a b | 1 => nbRL x a b | 2 => wtL x a b u v | 3 => nbTL x a b | _ => nbAL x
@[irreducible] def nbH (x : Wid) (a b u v : Int) (k : Nat) : Int := match k with | 0 => nbQH x a b | 1 => nbRH x a b | 2 => wtH x a b u v | 3 => nbTH x a b | _ => nbAH x
theorem nb_0 (x : Wid) (a b u v : Int) : nbL x a b u v 0 = nbQL x a b ∧ nbH x a b u v 0 = nbQH x a b := by unfold nbL nbH; exact ⟨rfl, rfl⟩
theorem nb_1 (x : Wid) (a b u v : Int) : nbL x a b u v 1 = nbRL x a b ∧ nbH x a b u v 1 = nbRH x a b := by unfold nbL nbH; exact ⟨rfl, rfl⟩
theorem nb_2 (x : Wid) (a b u v : Int) : nbL x a b u v 2 = wtL x a b u v ∧ nbH x a b u v 2 = wtH x a b u v := by unfold nbL nbH; exact ⟨rfl, rfl⟩
theorem nb_3 (x : Wid) (a b u v : Int) : nbL x a b u v 3 = nbTL x a b ∧ nbH x a b u v 3 = nbTH x a b := by unfold nbL nbH; exact ⟨rfl, rfl⟩
theorem nb_4 (x : Wid) (a b u v : Int) : nbL x a b u v 4 = nbAL x ∧ nbH x a b u v 4 = nbAH x := by unfold nbL nbH; exact ⟨rfl, rfl⟩
end
end Abs
end Go.Proofs.Ytbfdmfplhphilaa

/- Cells with tolerances, by the program: the next box. -/
namespace Go.Proofs.Ytbfdmfplhphilaa
namespace Abs
open Go Go.RowKit
noncomputable section
attribute [local irreducible] FnSat
theorem nbL_ite {x : Wid} {a b u v : Int} {j : Nat} (h : j < 5) : (if j = 0 then clipV (x.bl 0 - b - x.hi.leak) 0 (roomV x.lo (wearV x.lo (nbTH x a b) (nbAH x))) else if j = 4 then nbAL x else if j = 3 then nbTL x a b else if j = 2 then wtL x a b u v else
    if j = 1 then slackV x.lo (x.bl 1) (prL a b x.lo.pair x.hi.pair) else 0) = nbL x a b u v j := by
  match j, h with
  | 0, _ => rw [if_pos rfl, (nb_0 x a b u v).1]; unfold nbQL; rfl
  | 1, _ => rw [(nb_1 x a b u v).1]; unfold nbRL; rfl
  | 2, _ => rw [(nb_2 x a b u v).1]; rfl
  | 3, _ => rw [(nb_3 x a b u v).1]; rfl
  | 4, _ => rw [(nb_4 x a b u v).1]; rfl
theorem nbH_ite {x : Wid} {a b u v : Int} {j : Nat} (h : j < 5) : (if j = 0 then clipV (x.bh 0 - a - x.lo.leak) 0 (roomV x.hi (wearV x.lo (nbTL x a b) (nbAL x))) else if j = 4 then nbAH x else if j = 3 then nbTH x a b else if j = 2 then wtH x a b u v else
    if j = 1 then slackV x.lo (x.bh 1) (prH a b x.lo.pair x.hi.pair) else 0) = nbH x a b u v j := by
  match j, h with
  | 0, _ => rw [if_pos rfl, (nb_0 x a b u v).2]; unfold nbQH; rfl
  | 1, _ => rw [(nb_1 x a b u v).2]; unfold nbRH; rfl
  | 2, _ => rw [(nb_2 x a b u v).2]; rfl
  | 3, _ => rw [(nb_3 x a b u v).2]; rfl
  | 4, _ => rw [(nb_4 x a b u v).2]; rfl
def nxbS : SpecN [.ptr widCells, spanSh, spanSh] := ⟨fun (x, ((a : Int), (b : Int), _), ((u : Int), (v : Int), _), _) => WidOK (widOf x) ∧ insV (-1048576) a b 1048576 = true ∧ insV 0 u v 400000 = true,
  fun _ => .row 2, fun (x, ((a : Int), (b : Int), _), ((u : Int), (v : Int), _), _) => [.dead, .dead, .row 42 2 (.lit 5) (fun k => [.si .i64 (nbL (widOf x) a b u v k), .si .i64 (nbH (widOf x) a b u v k)])]⟩
set_option maxRecDepth 100000 in
set_option maxHeartbeats 4000000 in
theorem nxb_ok : FnSpecN Try.prog 50 _ nxbS := by
  refine FnSpecN.of SBn_ok mixed (U := 0) (I := fun _ => []) Try.func50 rfl (by kernel_rfl) rfl rfl (by decide +kernel) ?_
  rintro ⟨x, ⟨(a : Int), (b : Int), ⟨⟩⟩, ⟨(u : Int), (v : Int), ⟨⟩⟩, ⟨⟩⟩ hpre
  obtain ⟨x, rfl⟩ := wid_ex x
  have hpre : WidOK x ∧ insV (-1048576) a b 1048576 = true ∧ insV 0 u v 400000 = true := by have : WidOK (widOf (widD x)) ∧ insV (-1048576) a b 1048576 = true ∧ insV 0 u v 400000 = true := hpre; rwa [widOf_D] at this
  obtain ⟨h, hi, hu⟩ := hpre
  unfold FnSat
  conv => arg 2; reduce
  simp [nxbS, proS', wtS, divS, hulS, clipS, slackS, cvalS, wearS, roomS, maxRow, decL, takeL, dropL, ElEq, getB, goneB, aliveB, and_assoc]
  obtain ⟨i0, i1, i2⟩ := insV_iff.1 hi
  have hb := boxB_ok.1 h.bx
  have := h.n
  have := hb.q0
  have := hb.q1
  have := hb.q2
  have := hb.x0
  have := hb.x1
  have := hb.x2
  have := hb.t0
  have := hb.t1
  have := hb.t2
  have := hb.h0
  have := hb.h1
  have := hb.h2
  have := hb.a0
  have := hb.a1
  have := hb.a2
  have kl := celB_iff.1 h.lo
  have kh := celB_iff.1 h.hi
  have := kl.pr0
  have := kl.pr1
  have := kh.pr0
  have := kh.pr1
  have := kl.kp0
  have := kl.kp1
  have := kl.cap0
  have := kl.cap1
  have := kh.cap0
  have := kh.cap1
  have := kl.lk0
  have := kl.lk1
  have := kh.lk0
  have := kh.lk1
  obtain ⟨-, -, -, -, m1, m2⟩ := kl.max
  have hp := prB (a := a) (b := b) (c := x.lo.pair) (d := x.hi.pair) (K := 1048576) (L := 1048576) (by omega) (by omega) (by omega) (by omega)
  have cs := (scB_iff.1 kl.stress).1
  have v1 := sc_val kl.stress (x.bl 2)
  have v2 := sc_val kl.stress (x.bh 2)
  have e1 : atL x.lo.stress (x.bl 2) = valL x.lo.stress (x.bl 2) := atL_val cs (by omega) (by omega)
  have e2 : atL x.lo.stress (x.bh 2) = valL x.lo.stress (x.bh 2) := atL_val cs (by omega) (by omega)
  have n3 : nbTL x a b = x.bl 3 + max 0 (max a (-b)) := by unfold nbTL; rw [Int.max_assoc]
  have n4 : nbTH x a b = x.bh 3 + max b (-a) := by unfold nbTH; rfl
  have n5 : nbAL x = x.bl 4 + valL x.lo.stress (x.bl 2) := by unfold nbAL; rfl
  have n6 : nbAH x = x.bh 4 + valL x.lo.stress (x.bh 2) := by unfold nbAH; rfl
  rw [e1, e2, ← n3, ← n4, ← n5, ← n6]
  have w1 : WearOK x.lo (nbTH x a b) (nbAH x) := ⟨kl.cy0, kl.cy1, kl.al0, kl.al1, by omega, by omega, by omega, by omega⟩
  have w2 : WearOK x.lo (nbTL x a b) (nbAL x) := ⟨kl.cy0, kl.cy1, kl.al0, kl.al1, by omega, by omega, by omega, by omega⟩
  have y1 := wearV_in w1
  have y2 := wearV_in w2
  have a1 : 0 ≤ nbAL x ∧ nbAL x ≤ 2199023255552 := by omega
  have a2 : 0 ≤ nbAH x ∧ nbAH x ≤ 2199023255552 := by omega
  have a3 : 0 ≤ nbTL x a b ∧ nbTL x a b ≤ 2199023255552 := by omega
  have a4 : 0 ≤ nbTH x a b ∧ nbTH x a b ≤ 2199023255552 := by omega
  clear v1 v2 n3 n4 n5 n6
  repeat' (first | refine And.intro ?_ ?_ | intro _)
  all_goals first | assumption | omega | skip
  · exact nbL_ite ‹_›
  · exact nbH_ite ‹_›
noncomputable def SBo : Sums := ⟨(50, mkSumN _ nxbS) :: SBn.one, SBn.two, SBn.lo, SBn.eqs, SBn.its, SBn.imm⟩
theorem SBo_ok : SumsOK Try.prog SBo := (SBn_ok.add Try.func50 (by kernel_rfl) (by kernel_rfl) (mkSumN_ok nxb_ok))
end
end Abs
end Go.Proofs.Ytbfdmfplhphilaa

/- Cells with tolerances, by the program: VoltageBox, FillBox, StepBox. -/
namespace Go.Proofs.Ytbfdmfplhphilaa
namespace Abs
open Go Go.RowKit
noncomputable section
attribute [local irreducible] FnSat
theorem pcV_in {x o : Int} (hx : 0 ≤ x) (ho : 1 ≤ o) : 0 ≤ pcV x o ∧ pcV x o ≤ 65536 := by
  have := dvI_nonneg (a := x * 65536) (d := o) ho (by omega)
  unfold pcV
  omega
theorem resV_in {c : Cel} {t w : Int} : 0 ≤ resV c t w ∧ resV c t w ≤ 1048576 := by unfold resV; exact clipV_in (by decide)
/-- what a checked cell, tolerances and a box are -/
structure ChkOK (c : Cel) (n : Nat) (lo hi : Nat → Int) (m : Nat) (bl bh : Nat → Int) : Prop where
  cel : celB c = true
  n : n = 7
  m : m = 5
  cl : celB (mvC c lo) = true
  ch : celB (mvC c hi) = true
  le : ∀ k, k < 7 → spanOK (lo k) (hi k) = true
  bx : BoxOK bl bh
theorem chk_iff {c : Cel} {n : Nat} {lo hi : Nat → Int} {m : Nat} {bl bh : Nat → Int} : chkV c n lo hi m bl bh = 0 ↔ ChkOK c n lo hi m bl bh := by
  rw [chkV_zero, posV_zero]
  constructor
  · rintro ⟨⟨h1, h2, h3, h4⟩, h5⟩
    obtain ⟨h6, h7⟩ := vldB_iff.1 h2
    obtain rfl : n = 7 := by omega
    obtain rfl : m = 5 := (boxB_iff.1 h5).1
    exact ⟨h1, rfl, rfl, h3, h4, h7, boxB_ok.1 h5⟩
  · intro h
    obtain ⟨h1, rfl, rfl, h3, h4, h7, h5⟩ := h
    exact ⟨⟨h1, vldB_iff.2 ⟨rfl, h7⟩, h3, h4⟩, boxB_ok.2 h5⟩
theorem wid_of {c : Cel} {n : Nat} {lo hi : Nat → Int} {m : Nat} {bl bh : Nat → Int} (h : ChkOK c n lo hi m bl bh) : WidOK (widV c lo hi m bl bh) := by
  have h3 := spanOK_iff.1 (h.le 3 (by decide))
  have q0 := h.bx.q0
  have q1 := h.bx.q1
  have f1 := pcV_in (x := bl 0) (o := roomV (mvC c hi) (wdWL c bl)) q0 roomV_in.1
  have f2 := pcV_in (x := bh 0) (o := roomV (mvC c lo) (wdWL c bh)) (by omega) roomV_in.1
  have r1 := @resV_in (mvC c lo) (bh 2) (wdWL c bl)
  have r2 := @resV_in (mvC c hi) (bl 2) (wdWL c bh)
  constructor
  · rw [widV_lo]; exact h.cl
  · rw [widV_hi]; exact h.ch
  · rw [widV_n]; exact h.m
  · rw [widV_bl, widV_bh]; exact boxB_ok.2 h.bx
  · rw [widV_lo, widV_hi, mvC_pair, mvC_pair]; omega
  · rw [widV_fl]; unfold wdFL; exact f1.1
  · rw [widV_fl]; unfold wdFL; exact f1.2
  · rw [widV_fh]; unfold wdFH; exact f2.1
  · rw [widV_fh]; unfold wdFH; exact f2.2
  · rw [widV_rl]; unfold wdRL; exact r1.1
  · rw [widV_rl]; unfold wdRL; exact r1.2
  · rw [widV_rh]; unfold wdRH; exact r2.1
  · rw [widV_rh]; unfold wdRH; exact r2.2
@[irreducible] def okV (e x : Int) : Int := if e = 0 then x else 0
theorem okV_0 {e x : Int} (h : e = 0) : okV e x = x := by unfold okV; rw [if_pos h]
theorem okV_1 {e x : Int} (h : ¬ e = 0) : okV e x = 0 := by unfold okV; rw [if_neg h]
/-- the first error of two -/
@[irreducible] def orE (e : Int) (b : Bool) (x : Int) : Int := if e = 0 then (if b = true then 0 else x) else e
theorem orE_e {e x : Int} {b : Bool} (h : ¬ e = 0) : orE e b x = e := by unfold orE; rw [if_neg h]
theorem orE_f {e x : Int} {b : Bool} (h : e = 0) (hb : b = false) : orE e b x = x := by unfold orE; rw [if_pos h, if_neg (by rw [hb]; decide)]
theorem orE_t {e x : Int} {b : Bool} (h : e = 0) (hb : b = true) : orE e b x = 0 := by unfold orE; rw [if_pos h, if_pos hb]
theorem orE_0 {e x : Int} {b : Bool} (hx : ¬ x = 0) : orE e b x = 0 ↔ e = 0 ∧ b = true := by
  unfold orE
  by_cases h : e = 0
  · rw [if_pos h]
    cases b <;> simp [h, hx]
  · rw [if_neg h]; simp [h]
noncomputable def SBp : Sums := ⟨(46, mkSum _ chkS) :: SBo.one, SBo.two, SBo.lo, SBo.eqs, SBo.its, SBo.imm⟩
theorem SBp_ok : SumsOK Try.prog SBp := (SBo_ok.cons Try.func46 (by kernel_rfl) (by kernel_rfl) chk_ok)
def vbS : Spec [celSh, spansSh, spansSh, spanSh] := ⟨fun (c, x, y, _) => CelMax (celOf c) ∧ x.1 ≤ maxLen ∧ y.1 ≤ maxLen,
  fun (c, (n, el), (m, em), ((a : Int), (b : Int), _), _) => .tup [.agg [
    .si .i64 (okV (orE (chkV (celOf c) n (fun k => (el k).1) (fun k => (el k).2.1) m (fun k => (em k).1) (fun k => (em k).2.1)) (insV (-1048576) a b 1048576) 2) (wvL (widV (celOf c) (fun k => (el k).1) (fun k => (el k).2.1) m (fun k => (em k).1) (fun k => (em k).2.1)) a b)),
    .si .i64 (okV (orE (chkV (celOf c) n (fun k => (el k).1) (fun k => (el k).2.1) m (fun k => (em k).1) (fun k => (em k).2.1)) (insV (-1048576) a b 1048576) 2) (wvH (widV (celOf c) (fun k => (el k).1) (fun k => (el k).2.1) m (fun k => (em k).1) (fun k => (em k).2.1)) a b))],
    .si .i64 (orE (chkV (celOf c) n (fun k => (el k).1) (fun k => (el k).2.1) m (fun k => (em k).1) (fun k => (em k).2.1)) (insV (-1048576) a b 1048576) 2)]⟩
set_option maxRecDepth 100000 in
set_option maxHeartbeats 4000000 in
theorem vb_ok : FnSpec Try.prog 19 _ vbS := by
  refine FnSpec.of SBp_ok mixed (U := 0) (I := fun _ => []) Try.func19 rfl (by kernel_rfl) rfl rfl (by decide +kernel) ?_
  rintro ⟨c, ⟨n, el⟩, ⟨m, em⟩, ⟨(a : Int), (b : Int), ⟨⟩⟩, ⟨⟩⟩ hpre
  obtain ⟨c, rfl⟩ := cel_ex c
  obtain ⟨lo, hi, rfl⟩ : ∃ lo hi : Nat → Int, el = fun k => (lo k, hi k, ()) := ⟨fun k => (el k).1, fun k => (el k).2.1, rfl⟩
  obtain ⟨bl, bh, rfl⟩ : ∃ bl bh : Nat → Int, em = fun k => (bl k, bh k, ()) := ⟨fun k => (em k).1, fun k => (em k).2.1, rfl⟩
  have hpre : CelMax c ∧ n ≤ maxLen ∧ m ≤ maxLen := by have : CelMax (celOf (celD c)) ∧ n ≤ maxLen ∧ m ≤ maxLen := hpre; rwa [celOf_D] at this
  obtain ⟨hc, hn, hm⟩ := hpre
  unfold FnSat
  conv => arg 2; reduce
  simp [vbS, chkS, insC, sprS, wvS, ElEq, getB, goneB, aliveB, and_assoc]
  exact ⟨hc, hn, hm, fun h => ⟨(okV_1 (by rw [orE_e h]; exact h)).symm, (okV_1 (by rw [orE_e h]; exact h)).symm, (orE_e h).symm⟩, fun h => ⟨fun hb => ⟨(okV_1 (by rw [orE_f h hb]; decide)).symm, (okV_1 (by rw [orE_f h hb]; decide)).symm, (orE_f h hb).symm⟩,
    fun hb => ⟨(chkV_zero.1 h).1, (chkV_zero.1 h).2, wid_of (chk_iff.1 h), hb, (okV_0 (orE_t h hb)).symm, (okV_0 (orE_t h hb)).symm, (orE_t h hb).symm⟩⟩⟩
def fbS : Spec [celSh, spansSh, spansSh] := ⟨fun (c, x, y, _) => CelMax (celOf c) ∧ x.1 ≤ maxLen ∧ y.1 ≤ maxLen,
  fun (c, (n, el), (m, em), _) => .tup [.agg [
    .si .i64 (okV (chkV (celOf c) n (fun k => (el k).1) (fun k => (el k).2.1) m (fun k => (em k).1) (fun k => (em k).2.1)) (widV (celOf c) (fun k => (el k).1) (fun k => (el k).2.1) m (fun k => (em k).1) (fun k => (em k).2.1)).fl),
    .si .i64 (okV (chkV (celOf c) n (fun k => (el k).1) (fun k => (el k).2.1) m (fun k => (em k).1) (fun k => (em k).2.1)) (widV (celOf c) (fun k => (el k).1) (fun k => (el k).2.1) m (fun k => (em k).1) (fun k => (em k).2.1)).fh)],
    .si .i64 (chkV (celOf c) n (fun k => (el k).1) (fun k => (el k).2.1) m (fun k => (em k).1) (fun k => (em k).2.1))]⟩
set_option maxRecDepth 100000 in
set_option maxHeartbeats 4000000 in
theorem fb_ok : FnSpec Try.prog 20 _ fbS := by
  refine FnSpec.of SBp_ok mixed (U := 0) (I := fun _ => []) Try.func20 rfl (by kernel_rfl) rfl rfl (by decide +kernel) ?_
  rintro ⟨c, ⟨n, el⟩, ⟨m, em⟩, ⟨⟩⟩ hpre
  obtain ⟨c, rfl⟩ := cel_ex c
  obtain ⟨lo, hi, rfl⟩ : ∃ lo hi : Nat → Int, el = fun k => (lo k, hi k, ()) := ⟨fun k => (el k).1, fun k => (el k).2.1, rfl⟩
  obtain ⟨bl, bh, rfl⟩ : ∃ bl bh : Nat → Int, em = fun k => (bl k, bh k, ()) := ⟨fun k => (em k).1, fun k => (em k).2.1, rfl⟩
  have hpre : CelMax c ∧ n ≤ maxLen ∧ m ≤ maxLen := by have : CelMax (celOf (celD c)) ∧ n ≤ maxLen ∧ m ≤ maxLen := hpre; rwa [celOf_D] at this
  obtain ⟨hc, hn, hm⟩ := hpre
  unfold FnSat
  conv => arg 2; reduce
  simp [fbS, chkS, sprS, ElEq, getB, goneB, aliveB, and_assoc]
  exact ⟨hc, hn, hm, fun h => ⟨(okV_1 h).symm, (okV_1 h).symm⟩, fun h => ⟨(chkV_zero.1 h).1, (chkV_zero.1 h).2, (okV_0 h).symm, (okV_0 h).symm, h.symm⟩⟩
/-- an input box -/
@[irreducible] def inpB (n : Nat) (il ih : Nat → Int) : Bool := decide (n = 2) && insV (-1048576) (il 0) (ih 0) 1048576 && insV 0 (il 1) (ih 1) 400000
theorem inpB_iff {n : Nat} {il ih : Nat → Int} : inpB n il ih = true ↔ n = 2 ∧ insV (-1048576) (il 0) (ih 0) 1048576 = true ∧ insV 0 (il 1) (ih 1) 400000 = true := by unfold inpB; simp [and_assoc]
theorem inpB_no {n : Nat} {il ih : Nat → Int} (h : inpB n il ih = true → False) : inpB n il ih = false := by
  cases hb : inpB n il ih with
  | false => rfl
  | true => exact (h hb).elim
@[irreducible] def farB (x : Wid) (a b : Int) : Bool := decide (nbTH x a b ≤ 1099511627776) && decide (nbAH x ≤ 1099511627776)
theorem farB_iff {x : Wid} {a b : Int} : farB x a b = true ↔ nbTH x a b ≤ 1099511627776 ∧ nbAH x ≤ 1099511627776 := by unfold farB; simp
@[irreducible] def sbE (c : Cel) (n : Nat) (lo hi : Nat → Int) (m : Nat) (bl bh : Nat → Int) (p : Nat) (il ih : Nat → Int) : Int := orE (orE (chkV c n lo hi m bl bh) (inpB p il ih) 2) (farB (widV c lo hi m bl bh) (il 0) (ih 0)) 4
@[irreducible] def sbN (e : Int) : Nat := if e = 0 then 5 else 0
theorem farB_no {x : Wid} {a b : Int} (h : farB x a b = true → False) : farB x a b = false := by
  cases hb : farB x a b with
  | false => rfl
  | true => exact (h hb).elim
theorem sbN_0 {e : Int} (h : ¬ e = 0) : sbN e = 0 := by unfold sbN; rw [if_neg h]
theorem sbN_5 {e : Int} (h : e = 0) : sbN e = 5 := by unfold sbN; rw [if_pos h]
theorem sbE_1 {c : Cel} {n : Nat} {lo hi : Nat → Int} {m : Nat} {bl bh : Nat → Int} {p : Nat} {il ih : Nat → Int} (h : ¬ chkV c n lo hi m bl bh = 0) : sbE c n lo hi m bl bh p il ih = chkV c n lo hi m bl bh := by
  unfold sbE
  rw [orE_e (e := orE (chkV c n lo hi m bl bh) (inpB p il ih) 2) (by rw [orE_e h]; exact h), orE_e h]
theorem sbE_2 {c : Cel} {n : Nat} {lo hi : Nat → Int} {m : Nat} {bl bh : Nat → Int} {p : Nat} {il ih : Nat → Int} (h : chkV c n lo hi m bl bh = 0) (hb : inpB p il ih = false) : sbE c n lo hi m bl bh p il ih = 2 := by
  unfold sbE
  rw [orE_e (e := orE (chkV c n lo hi m bl bh) (inpB p il ih) 2) (by rw [orE_f h hb]; decide), orE_f h hb]
theorem sbE_4 {c : Cel} {n : Nat} {lo hi : Nat → Int} {m : Nat} {bl bh : Nat → Int} {p : Nat} {il ih : Nat → Int} (h : chkV c n lo hi m bl bh = 0) (hb : inpB p il ih = true) (hf : farB (widV c lo hi m bl bh) (il 0) (ih 0) = false) : sbE c n lo hi m bl bh p il ih = 4 := by
  unfold sbE
  rw [orE_f (orE_t h hb) hf]
theorem sbE_0 {c : Cel} {n : Nat} {lo hi : Nat → Int} {m : Nat} {bl bh : Nat → Int} {p : Nat} {il ih : Nat → Int} (h : chkV c n lo hi m bl bh = 0) (hb : inpB p il ih = true) (hf : farB (widV c lo hi m bl bh) (il 0) (ih 0) = true) : sbE c n lo hi m bl bh p il ih = 0 := by
  unfold sbE
  rw [orE_t (orE_t h hb) hf]
theorem sbE_iff {c : Cel} {n : Nat} {lo hi : Nat → Int} {m : Nat} {bl bh : Nat → Int} {p : Nat} {il ih : Nat → Int} : sbE c n lo hi m bl bh p il ih = 0 ↔ chkV c n lo hi m bl bh = 0 ∧ inpB p il ih = true ∧ farB (widV c lo hi m bl bh) (il 0) (ih 0) = true := by
  unfold sbE
  rw [orE_0 (by decide), orE_0 (by decide), and_assoc]
def sbS : Spec [celSh, spansSh, spansSh, spansSh] := ⟨fun (c, x, y, z, _) => CelMax (celOf c) ∧ x.1 ≤ maxLen ∧ y.1 ≤ maxLen ∧ z.1 ≤ maxLen,
  fun (c, (n, el), (m, em), (p, en), _) => .tup [.slc (.sym (sbN (sbE (celOf c) n (fun k => (el k).1) (fun k => (el k).2.1) m (fun k => (em k).1) (fun k => (em k).2.1) p (fun k => (en k).1) (fun k => (en k).2.1)))) 2
      (fun k => [.si .i64 (nbL (widV (celOf c) (fun k => (el k).1) (fun k => (el k).2.1) m (fun k => (em k).1) (fun k => (em k).2.1)) (en 0).1 (en 0).2.1 (en 1).1 (en 1).2.1 k), .si .i64 (nbH (widV (celOf c) (fun k => (el k).1) (fun k => (el k).2.1) m (fun k => (em k).1) (fun k => (em k).2.1)) (en 0).1 (en 0).2.1 (en 1).1 (en 1).2.1 k)]),
    .si .i64 (sbE (celOf c) n (fun k => (el k).1) (fun k => (el k).2.1) m (fun k => (em k).1) (fun k => (em k).2.1) p (fun k => (en k).1) (fun k => (en k).2.1))]⟩
set_option maxRecDepth 100000 in
set_option maxHeartbeats 4000000 in
theorem sb_ok : FnSpec Try.prog 21 _ sbS := by
  refine FnSpec.of SBp_ok mixed (U := 0) (I := fun _ => []) Try.func21 rfl (by kernel_rfl) rfl rfl (by decide +kernel) ?_
  rintro ⟨c, ⟨n, el⟩, ⟨m, em⟩, ⟨p, en⟩, ⟨⟩⟩ hpre
  obtain ⟨c, rfl⟩ := cel_ex c
  obtain ⟨lo, hi, rfl⟩ : ∃ lo hi : Nat → Int, el = fun k => (lo k, hi k, ()) := ⟨fun k => (el k).1, fun k => (el k).2.1, rfl⟩
  obtain ⟨bl, bh, rfl⟩ : ∃ bl bh : Nat → Int, em = fun k => (bl k, bh k, ()) := ⟨fun k => (em k).1, fun k => (em k).2.1, rfl⟩
  obtain ⟨il, ih, rfl⟩ : ∃ il ih : Nat → Int, en = fun k => (il k, ih k, ()) := ⟨fun k => (en k).1, fun k => (en k).2.1, rfl⟩
  have hpre : CelMax c ∧ n ≤ maxLen ∧ m ≤ maxLen ∧ p ≤ maxLen := by have : CelMax (celOf (celD c)) ∧ n ≤ maxLen ∧ m ≤ maxLen ∧ p ≤ maxLen := hpre; rwa [celOf_D] at this
  obtain ⟨hc, hn, hm, hp⟩ := hpre
  unfold FnSat
  conv => arg 2; reduce
  simp [sbS, chkS, insC, sprS, nxbS, ElEq, getB, goneB, aliveB, and_assoc]
  refine ⟨hc, hn, hm, fun h => ⟨sbN_0 (by rw [sbE_1 h]; exact h), (sbE_1 h).symm⟩, fun h => ⟨fun q => by omega, fun q _ => by omega, fun q => ?_, fun q1 q2 q3 => ?_⟩⟩
  · have hb : inpB p il ih = false := inpB_no fun hb => by
      obtain ⟨b1, b2, b3⟩ := inpB_iff.1 hb
      rcases q with (q | q) | q
      · omega
      · rw [b2] at q; cases q
      · rw [b3] at q; cases q
    exact ⟨sbN_0 (by rw [sbE_2 h hb]; decide), (sbE_2 h hb).symm⟩
  · have hb : inpB p il ih = true := inpB_iff.2 ⟨by omega, q2, q3⟩
    have e3 := (nb_3 (widV c lo hi m bl bh) (il 0) (ih 0) (il 1) (ih 1)).2
    have e4 := (nb_4 (widV c lo hi m bl bh) (il 0) (ih 0) (il 1) (ih 1)).2
    refine ⟨(chkV_zero.1 h).1, (chkV_zero.1 h).2, by omega, by omega, wid_of (chk_iff.1 h), q2, q3, fun k _ => rfl, fun q => ?_, fun r1 r2 => ?_⟩
    · have hf : farB (widV c lo hi m bl bh) (il 0) (ih 0) = false := farB_no fun hf => by
        obtain ⟨f1, f2⟩ := farB_iff.1 hf
        rcases q with q | q
        · have : 1099511627776 < nbH (widV c lo hi m bl bh) (il 0) (ih 0) (il 1) (ih 1) 3 := q
          omega
        · have : 1099511627776 < nbH (widV c lo hi m bl bh) (il 0) (ih 0) (il 1) (ih 1) 4 := q
          omega
      exact ⟨sbN_0 (by rw [sbE_4 h hb hf]; decide), (sbE_4 h hb hf).symm⟩
    · have r1 : nbH (widV c lo hi m bl bh) (il 0) (ih 0) (il 1) (ih 1) 3 ≤ 1099511627776 := r1
      have r2 : nbH (widV c lo hi m bl bh) (il 0) (ih 0) (il 1) (ih 1) 4 ≤ 1099511627776 := r2
      have hf : farB (widV c lo hi m bl bh) (il 0) (ih 0) = true := farB_iff.2 ⟨by omega, by omega⟩
      exact ⟨(sbN_5 (sbE_0 h hb hf)).symm, (sbE_0 h hb hf).symm⟩
noncomputable def SBq : Sums := ⟨(21, mkSum _ sbS) :: (20, mkSum _ fbS) :: (19, mkSum _ vbS) :: SBp.one, SBp.two, SBp.lo, SBp.eqs, SBp.its, SBp.imm⟩
theorem SBq_ok : SumsOK Try.prog SBq := (((SBp_ok.cons Try.func19 (by kernel_rfl) (by kernel_rfl) vb_ok).cons Try.func20 (by kernel_rfl) (by kernel_rfl) fb_ok).cons Try.func21 (by kernel_rfl) (by kernel_rfl) sb_ok)
end
end Abs
end Go.Proofs.Ytbfdmfplhphilaa

/- Cells with offsets and with faults, by the program. -/
namespace Go.Proofs.Ytbfdmfplhphilaa
namespace Abs
open Go Go.RowKit
noncomputable section
attribute [local irreducible] FnSat
def isqS : Spec [.int .i64] := ⟨fun _ => True, fun ((x : Int), _) => .sb (isQ x)⟩
set_option maxRecDepth 100000 in
theorem isq_ok : FnSpec Try.prog 28 _ isqS := by
  refine FnSpec.of SBq_ok mixed (U := 0) (I := fun _ => []) Try.func28 rfl (by kernel_rfl) rfl rfl (by decide +kernel) ?_
  rintro ⟨(x : Int), ⟨⟩⟩ -
  unfold FnSat
  conv => arg 2; reduce
  simp [isqS, betS]
  rw [Bool.eq_iff_iff, isQ_iff]
  simp
def apl1 : Spec [.int .i64, .ptr [intsSh]] := ⟨fun ((i : Int), ((n, _), _), _) => 0 ≤ i ∧ i < (n : Int), fun ((i : Int), ((_, el), _), _) => .si .i64 (el (nat i)).1⟩
set_option maxRecDepth 100000 in
theorem apl1_ok : FnSpec Try.prog 30 _ apl1 := by
  refine FnSpec.of SBq_ok mixed (U := 0) (I := fun _ => []) Try.func30 rfl (by kernel_rfl) rfl rfl (by decide +kernel) ?_
  rintro ⟨(i : Int), ⟨⟨n, el⟩, ⟨⟩⟩, ⟨⟩⟩ ⟨(h1 : 0 ≤ i), (h2 : i < (n : Int))⟩
  obtain ⟨v, rfl⟩ : ∃ v : Nat → Int, el = fun k => (v k, ()) := ⟨fun k => (el k).1, rfl⟩
  unfold FnSat
  conv => arg 2; reduce
  simp [apl1]
  omega
noncomputable def SAa0 : Sums := ⟨(30, mkSum _ apl1) :: (28, mkSum _ isqS) :: SBq.one, SBq.two, SBq.lo, SBq.eqs, SBq.its, SBq.imm⟩
theorem SAa0_ok : SumsOK Try.prog SAa0 := ((SBq_ok.cons Try.func28 (by kernel_rfl) (by kernel_rfl) isq_ok).cons Try.func30 (by kernel_rfl) (by kernel_rfl) apl1_ok)
noncomputable def SAa : Sums := ⟨SAa0.one, SBa.two, SAa0.lo, SAa0.eqs, SAa0.its, SAa0.imm⟩
theorem SAa_ok : SumsOK Try.prog SAa := ⟨SAa0_ok.one, SBa_ok.two, SAa0_ok.eqs, SAa0_ok.bodyOne, SBa_ok.bodyTwo, SAa0_ok.its⟩
def moAp : Spec [celSh, .fn 30 [] [.ptr [intsSh]]] := ⟨fun (c, (_, ((n, el), _), _), _) => celB (celOf c) = true ∧ n = 7 ∧ ofsB (fun k => (el k).1), fun (c, (_, ((_, el), _), _), _) => mvA (celOf c) (fun k => (el k).1)⟩
set_option maxRecDepth 100000 in
set_option maxHeartbeats 2000000 in
theorem moAp_ok : FnSpec Try.prog 29 _ moAp := by
  refine FnSpec.of SAa_ok mixed (U := 8) (I := fun _ => []) Try.func29 rfl (by kernel_rfl) rfl rfl (by decide +kernel) ?_
  rintro ⟨c, ⟨y, ⟨⟨n, el⟩, ⟨⟩⟩, ⟨⟩⟩, ⟨⟩⟩ hpre
  obtain ⟨c, rfl⟩ := cel_ex c
  obtain ⟨lo, rfl⟩ : ∃ lo : Nat → Int, el = fun k => (lo k, ()) := ⟨fun k => (el k).1, rfl⟩
  have hpre : celB c = true ∧ n = 7 ∧ ofsB lo := by have : celB (celOf (celD c)) = true ∧ n = 7 ∧ ofsB lo := hpre; rwa [celOf_D] at this
  obtain ⟨hc, rfl, ho⟩ := hpre
  unfold FnSat
  conv => arg 2; reduce
  simp [moAp, apl1, numF, encL_cel, ElEq, getB, goneB, aliveB, and_assoc]
  have hk := celB_iff.1 hc
  unfold ofsB at ho
  have a0 := ho 0 (by decide)
  have a1 := ho 1 (by decide)
  have a2 := ho 2 (by decide)
  have a3 := ho 3 (by decide)
  have a4 := ho 4 (by decide)
  have a5 := ho 5 (by decide)
  have a6 := ho 6 (by decide)
  have := hk.cap0
  have := hk.cap1
  have := hk.sh0
  have := hk.sh1
  have := hk.ex0
  have := hk.ex1
  have := hk.pr0
  have := hk.pr1
  have := hk.lk0
  have := hk.lk1
  have := hk.hc0
  have := hk.hc1
  have := hk.co0
  have := hk.co1
  omega
theorem enc_cel (c : Cel) : enc celSh (celD c) = .agg [.si .i64 c.cap, .slc (.sym c.ocv.nx) 1 (fun k => [.si .i64 (c.ocv.x k)]), .slc (.sym c.ocv.ny) 1 (fun k => [.si .i64 (c.ocv.y k)]), .si .i64 c.shift,
    .slc (.sym c.cold.nx) 1 (fun k => [.si .i64 (c.cold.x k)]), .slc (.sym c.cold.ny) 1 (fun k => [.si .i64 (c.cold.y k)]), .si .i64 c.extra, .si .i64 c.pair, .si .i64 c.keep, .si .i64 c.leak, .si .i64 c.hcap, .si .i64 c.cool,
    .slc (.sym c.stress.nx) 1 (fun k => [.si .i64 (c.stress.x k)]), .slc (.sym c.stress.ny) 1 (fun k => [.si .i64 (c.stress.y k)]), .si .i64 c.cyc, .si .i64 c.agel, .si .i64 c.grow] := rfl
def CelFew (c : Cel) : Prop := CelMax c ∧ c.ocv.nx ≤ 1048576 ∧ c.ocv.ny ≤ 1048576 ∧ c.cold.nx ≤ 1048576 ∧ c.cold.ny ≤ 1048576 ∧ c.stress.nx ≤ 1048576 ∧ c.stress.ny ≤ 1048576
def kepS : Spec [celSh] := ⟨fun (c, _) => CelFew (celOf c), fun (c, _) => enc celSh (celD (celOf c))⟩
set_option maxRecDepth 100000 in
set_option maxHeartbeats 2000000 in
theorem kep_ok : FnSpec Try.prog 31 _ kepS := by
  refine FnSpec.of SBq_ok mixed (U := 4) (I := fun _ => []) Try.func31 rfl (by kernel_rfl) rfl rfl (by decide +kernel) ?_
  rintro ⟨c, ⟨⟩⟩ hpre
  obtain ⟨c, rfl⟩ := cel_ex c
  have hpre : CelFew c := by have : CelFew (celOf (celD c)) := hpre; rwa [celOf_D] at this
  obtain ⟨h0, h1, h2, h3, h4, h5, h6⟩ := hpre
  unfold FnSat
  conv => arg 2; reduce
  simp [kepS, enc_cel, maxRow, ElEq, getB, goneB, aliveB, and_assoc]
  omega
theorem CelOK.few {c : Cel} (h : CelOK c) : CelFew c := by
  have h1 := crB_iff.1 (scB_iff.1 h.ocv).1
  have h2 := crB_iff.1 (scB_iff.1 h.cold).1
  have h3 := crB_iff.1 (scB_iff.1 h.stress).1
  exact ⟨h.max, by omega, by omega, by omega, by omega, by omega, by omega⟩
/-- no cell -/
@[irreducible] def celNil : Cel := ⟨0, ⟨0, fun _ => 0, 0, fun _ => 0⟩, 0, ⟨0, fun _ => 0, 0, fun _ => 0⟩, 0, 0, 0, 0, 0, 0, ⟨0, fun _ => 0, 0, fun _ => 0⟩, 0, 0, 0⟩
theorem celNil_n : celNil.cap = 0 ∧ celNil.ocv.nx = 0 ∧ celNil.ocv.ny = 0 ∧ celNil.shift = 0 ∧ celNil.cold.nx = 0 ∧ celNil.cold.ny = 0 ∧ celNil.extra = 0 ∧ celNil.pair = 0 ∧ celNil.keep = 0 ∧ celNil.leak = 0 ∧ celNil.hcap = 0 ∧ celNil.cool = 0 ∧ celNil.stress.nx = 0 ∧ celNil.stress.ny = 0 ∧ celNil.cyc = 0 ∧ celNil.agel = 0 ∧ celNil.grow = 0 := by
  unfold celNil Cel.cap Cel.ocv Cel.shift Cel.cold Cel.extra Cel.pair Cel.keep Cel.leak Cel.hcap Cel.cool Cel.stress Cel.cyc Cel.agel Cel.grow
  simp
@[irreducible] def apE (c : Cel) (n : Nat) (v : Nat → Int) : Int := if celB c = true ∧ n = 7 then (if allN (fun k => isQ (v k)) 7 = true then (if celB (mvC c v) = true then 0 else 3) else 2) else 2
@[irreducible] def apC (c : Cel) (n : Nat) (v : Nat → Int) : Cel := if apE c n v = 0 then mvC c v else celNil
theorem apE_no {c : Cel} {n : Nat} {v : Nat → Int} (h : celB c = true → n = 7 → False) : apE c n v = 2 := by unfold apE; rw [if_neg (fun q => h q.1 q.2)]
theorem apE_q {c : Cel} {n : Nat} {v : Nat → Int} {k : Nat} (hk : k < n) (h : isQ (v k) = false) : apE c n v = 2 := by
  unfold apE
  split
  · rename_i q
    obtain ⟨q1, rfl⟩ := q
    rw [if_neg]
    intro ha
    have := allN_iff.1 ha k hk
    rw [h] at this; cases this
  · rfl
theorem apE_r {c : Cel} {v : Nat → Int} (h : celB c = true) (hq : ∀ k, k < 7 → isQ (v k) = true) (hm : celB (mvC c v) = false) : apE c 7 v = 3 := by
  unfold apE; rw [if_pos ⟨h, rfl⟩, if_pos (allN_iff.2 hq), if_neg (by rw [hm]; decide)]
theorem apE_0 {c : Cel} {v : Nat → Int} (h : celB c = true) (hq : ∀ k, k < 7 → isQ (v k) = true) (hm : celB (mvC c v) = true) : apE c 7 v = 0 := by
  unfold apE; rw [if_pos ⟨h, rfl⟩, if_pos (allN_iff.2 hq), if_pos hm]
theorem apE_iff {c : Cel} {n : Nat} {v : Nat → Int} : apE c n v = 0 ↔ celB c = true ∧ n = 7 ∧ (∀ k, k < 7 → isQ (v k) = true) ∧ celB (mvC c v) = true := by
  constructor
  · intro h
    unfold apE at h
    split at h
    · rename_i q
      split at h
      · rename_i q2
        split at h
        · rename_i q3
          exact ⟨q.1, q.2, allN_iff.1 q2, q3⟩
        · cases h
      · cases h
    · cases h
  · rintro ⟨h1, rfl, h2, h3⟩
    exact apE_0 h1 h2 h3
theorem apC_0 {c : Cel} {n : Nat} {v : Nat → Int} (h : apE c n v = 0) : apC c n v = mvC c v := by unfold apC; rw [if_pos h]
theorem apC_n {c : Cel} {n : Nat} {v : Nat → Int} (h : ¬ apE c n v = 0) : apC c n v = celNil := by unfold apC; rw [if_neg h]
theorem nil_is {C : Cel} (h : C = celNil) : 0 = C.cap ∧ C.ocv.nx = 0 ∧ C.ocv.ny = 0 ∧ 0 = C.shift ∧ C.cold.nx = 0 ∧ C.cold.ny = 0 ∧ 0 = C.extra ∧ 0 = C.pair ∧ 0 = C.keep ∧ 0 = C.leak ∧ 0 = C.hcap ∧ 0 = C.cool ∧ C.stress.nx = 0 ∧ C.stress.ny = 0 ∧ 0 = C.cyc ∧ 0 = C.agel ∧ 0 = C.grow := by
  obtain ⟨n1, n2, n3, n4, n5, n6, n7, n8, n9, n10, n11, n12, n13, n14, n15, n16, n17⟩ := celNil_n
  subst h
  exact ⟨n1.symm, n2, n3, n4.symm, n5, n6, n7.symm, n8.symm, n9.symm, n10.symm, n11.symm, n12.symm, n13, n14, n15.symm, n16.symm, n17.symm⟩
theorem apl_no {c : Cel} {n : Nat} {v : Nat → Int} {e : Int} (h : apE c n v = e) (he : ¬ e = 0) : 0 = (apC c n v).cap ∧ (apC c n v).ocv.nx = 0 ∧ (apC c n v).ocv.ny = 0 ∧ 0 = (apC c n v).shift ∧ (apC c n v).cold.nx = 0 ∧ (apC c n v).cold.ny = 0 ∧ 0 = (apC c n v).extra ∧ 0 = (apC c n v).pair ∧ 0 = (apC c n v).keep ∧ 0 = (apC c n v).leak ∧ 0 = (apC c n v).hcap ∧ 0 = (apC c n v).cool ∧ (apC c n v).stress.nx = 0 ∧ (apC c n v).stress.ny = 0 ∧ 0 = (apC c n v).cyc ∧ 0 = (apC c n v).agel ∧ 0 = (apC c n v).grow ∧ e = apE c n v := by
  obtain ⟨n1, n2, n3, n4, n5, n6, n7, n8, n9, n10, n11, n12, n13, n14, n15, n16, n17⟩ := nil_is (apC_n (c := c) (n := n) (v := v) (by rw [h]; exact he))
  exact ⟨n1, n2, n3, n4, n5, n6, n7, n8, n9, n10, n11, n12, n13, n14, n15, n16, n17, h.symm⟩
noncomputable def SAb0 : Sums := ⟨(31, mkSum _ kepS) :: (29, mkSum _ moAp) :: (28, mkSum _ isqS) :: (46, mkSum _ chkS) :: SBf.one, SBf.two, SBf.lo, SBf.eqs, SBf.its, SBf.imm⟩
theorem SAb0_ok : SumsOK Try.prog SAb0 := ((((SBf_ok.cons Try.func46 (by kernel_rfl) (by kernel_rfl) chk_ok).cons Try.func28 (by kernel_rfl) (by kernel_rfl) isq_ok).cons Try.func29 (by kernel_rfl) (by kernel_rfl) moAp_ok).cons Try.func31 (by kernel_rfl) (by kernel_rfl) kep_ok)
noncomputable def SAb : Sums := ⟨SAb0.one, SAb0.two, SAb0.lo, SAb0.eqs, SAb0.its, [26, 22]⟩
theorem SAb_ok : SumsOK Try.prog SAb := SAb0_ok.setImm _
def aplS : Spec [celSh, intsSh] := ⟨fun (c, x, _) => CelMax (celOf c) ∧ x.1 ≤ maxLen, fun (c, (n, el), _) => .tup [enc celSh (celD (apC (celOf c) n (fun k => (el k).1))), .si .i64 (apE (celOf c) n (fun k => (el k).1))]⟩
def aplI : DatL [celSh, intsSh] → Anns := fun (c, (n, el), _) => [
  (4, [], fun fr hp => ⟨Nat, fun g => ⟨frI [.k 7, .t 1, .k 14, .s (.si .i64 (icast g)), .t 8, .k 9] fr, hp⟩, Nat × Nat × (Nat → Int), fun g => (g, n, fun k => (el k).1), fun (g, n, v) => g ≤ n ∧ ∀ k, k < g → isQ (v k) = true, fun g => nsub n g⟩)]
set_option maxRecDepth 100000 in
set_option maxHeartbeats 4000000 in
theorem apl_ok : FnSpec Try.prog 7 _ aplS := by
  refine FnSpec.of SAb_ok mixed (U := 0) (I := aplI) Try.func7 rfl (by kernel_rfl) rfl rfl (by decide +kernel) ?_
  rintro ⟨c, ⟨n, el⟩, ⟨⟩⟩ hpre
  obtain ⟨c, rfl⟩ := cel_ex c
  obtain ⟨v, rfl⟩ : ∃ v : Nat → Int, el = fun k => (v k, ()) := ⟨fun k => (el k).1, rfl⟩
  have hpre : CelMax c ∧ n ≤ maxLen := by have : CelMax (celOf (celD c)) ∧ n ≤ maxLen := hpre; rwa [celOf_D] at this
  obtain ⟨hc, hn⟩ := hpre
  unfold FnSat
  conv => arg 2; reduce
  unfold maxLen at hn
  simp [aplS, ccheckS, num0, isqS, moAp, kepS, enc_cel, celOf_mv, ElEq, getB, goneB, aliveB, and_assoc]
  refine ⟨hc, fun h => apl_no (apE_no fun q1 q2 => ?_) (by decide), fun h1 h2 => ⟨⟨0, rfl, by omega, fun k hk => by omega⟩, fun g hg hq => ⟨fun hlt => ⟨hlt, fun hb => apl_no (apE_q hlt hb) (by decide), fun hb => ⟨by omega, by omega, g + 1, by omega, by omega, fun k hk => ?_, by omega⟩⟩, fun hge => ?_⟩⟩⟩
  · rcases h with h | h
    · rw [q1] at h; cases h
    · omega
  · by_cases h' : k < g
    · exact hq k h'
    · obtain rfl : k = g := by omega
      exact hb
  · obtain rfl : n = 7 := by omega
    have hq7 : ∀ k, k < 7 → isQ (v k) = true := fun k hk => hq k (by omega)
    have ho : ofsB v := by
      unfold ofsB
      intro k hk
      exact isQ_iff.1 (hq7 k hk)
    refine ⟨h1, rfl, ho, mvM hc v, fun hb => apl_no (apE_r h1 hq7 hb) (by decide), fun hb => ?_⟩
    have E0 : apE c 7 (fun k => v k) = 0 := apE_0 h1 hq7 hb
    have E : apC c 7 (fun k => v k) = mvC c v := apC_0 E0
    rw [E, E0]
    refine ⟨(celB_iff.1 hb).few, ?_⟩
    simp
noncomputable def SAc : Sums := ⟨(28, mkSum _ isqS) :: (7, mkSum _ aplS) :: (31, mkSum _ kepS) :: SBq.one, SBq.two, SBq.lo, SBq.eqs, SBq.its, SBq.imm⟩
theorem SAc_ok : SumsOK Try.prog SAc := (((SBq_ok.cons Try.func31 (by kernel_rfl) (by kernel_rfl) kep_ok).cons Try.func7 (by kernel_rfl) (by kernel_rfl) apl_ok).cons Try.func28 (by kernel_rfl) (by kernel_rfl) isq_ok)
-- faults
@[irreducible] def fltC (c : Cel) (k a : Int) : Cel := ⟨if k = 3 then c.cap - a else c.cap, c.ocv, c.shift, c.cold, if k = 2 then c.extra + a else c.extra, c.pair, c.keep, if k = 1 then c.leak + a else c.leak, c.hcap, if k = 4 then 0 else c.cool, c.stress, c.cyc, c.agel, c.grow⟩
theorem fltC_n (c : Cel) (k a : Int) : (fltC c k a).cap = (if k = 3 then c.cap - a else c.cap) ∧ (fltC c k a).ocv = c.ocv ∧ (fltC c k a).shift = c.shift ∧ (fltC c k a).cold = c.cold ∧ (fltC c k a).extra = (if k = 2 then c.extra + a else c.extra) ∧ (fltC c k a).pair = c.pair ∧
    (fltC c k a).keep = c.keep ∧ (fltC c k a).leak = (if k = 1 then c.leak + a else c.leak) ∧ (fltC c k a).hcap = c.hcap ∧ (fltC c k a).cool = (if k = 4 then 0 else c.cool) ∧ (fltC c k a).stress = c.stress ∧ (fltC c k a).cyc = c.cyc ∧ (fltC c k a).agel = c.agel ∧ (fltC c k a).grow = c.grow := by
  unfold fltC Cel.cap Cel.ocv Cel.shift Cel.cold Cel.extra Cel.pair Cel.keep Cel.leak Cel.hcap Cel.cool Cel.stress Cel.cyc Cel.agel Cel.grow
  exact ⟨rfl, rfl, rfl, rfl, rfl, rfl, rfl, rfl, rfl, rfl, rfl, rfl, rfl, rfl⟩
@[irreducible] def fltB (k a : Int) : Bool := decide (0 ≤ k) && decide (k ≤ 4) && decide (0 ≤ a) && decide (a ≤ 1048576) && (decide (a = 0) || !(decide (k = 0) || decide (k = 4)))
@[irreducible] def flE (c : Cel) (k a : Int) : Int := if (celB c && fltB k a) = true then (if celB (fltC c k a) = true then 0 else 3) else 2
@[irreducible] def flC (c : Cel) (k a : Int) : Cel := if flE c k a = 0 then fltC c k a else celNil
/-- a cell with other numbers -/
@[irreducible] def celX (c : Cel) (a1 a2 a3 a4 a5 a6 a7 a8 a9 a10 a11 : Int) : Cel := ⟨a1, c.ocv, a2, c.cold, a3, a4, a5, a6, a7, a8, c.stress, a9, a10, a11⟩
theorem celOf_x (c : Cel) (a1 a2 a3 a4 a5 a6 a7 a8 a9 a10 a11 : Int) : celOf (a1, (c.ocv.nx, fun k => (c.ocv.x k, ())), (c.ocv.ny, fun k => (c.ocv.y k, ())), a2, (c.cold.nx, fun k => (c.cold.x k, ())), (c.cold.ny, fun k => (c.cold.y k, ())), a3, a4, a5, a6, a7, a8, (c.stress.nx, fun k => (c.stress.x k, ())), (c.stress.ny, fun k => (c.stress.y k, ())), a9, a10, a11, ()) = celX c a1 a2 a3 a4 a5 a6 a7 a8 a9 a10 a11 := by
  unfold celOf celX
  simp only [crvOf_mk]
theorem celX_id (c : Cel) : celX c c.cap c.shift c.extra c.pair c.keep c.leak c.hcap c.cool c.cyc c.agel c.grow = c := by
  unfold celX Cel.cap Cel.ocv Cel.shift Cel.cold Cel.extra Cel.pair Cel.keep Cel.leak Cel.hcap Cel.cool Cel.stress Cel.cyc Cel.agel Cel.grow; rfl
theorem celX_flt (c : Cel) (k a : Int) : fltC c k a = celX c (if k = 3 then c.cap - a else c.cap) c.shift (if k = 2 then c.extra + a else c.extra) c.pair c.keep (if k = 1 then c.leak + a else c.leak) c.hcap (if k = 4 then 0 else c.cool) c.cyc c.agel c.grow := by
  unfold fltC celX; rfl
theorem flE_2 {c : Cel} {k a : Int} (h : (celB c && fltB k a) = false) : flE c k a = 2 := by unfold flE; rw [if_neg (by rw [h]; decide)]
theorem flE_3 {c : Cel} {k a : Int} (h : celB c = true) (hf : fltB k a = true) (hb : celB (fltC c k a) = false) : flE c k a = 3 := by unfold flE; rw [if_pos (by rw [h, hf]; rfl), if_neg (by rw [hb]; decide)]
theorem flE_0 {c : Cel} {k a : Int} (h : celB c = true) (hf : fltB k a = true) (hb : celB (fltC c k a) = true) : flE c k a = 0 := by unfold flE; rw [if_pos (by rw [h, hf]; rfl), if_pos hb]
theorem flC_n {c : Cel} {k a e : Int} (h : flE c k a = e) (he : ¬ e = 0) : 0 = (flC c k a).cap ∧ (flC c k a).ocv.nx = 0 ∧ (flC c k a).ocv.ny = 0 ∧ 0 = (flC c k a).shift ∧ (flC c k a).cold.nx = 0 ∧ (flC c k a).cold.ny = 0 ∧ 0 = (flC c k a).extra ∧ 0 = (flC c k a).pair ∧ 0 = (flC c k a).keep ∧ 0 = (flC c k a).leak ∧ 0 = (flC c k a).hcap ∧ 0 = (flC c k a).cool ∧ (flC c k a).stress.nx = 0 ∧ (flC c k a).stress.ny = 0 ∧ 0 = (flC c k a).cyc ∧ 0 = (flC c k a).agel ∧ 0 = (flC c k a).grow ∧ e = flE c k a := by
  have hC : flC c k a = celNil := by unfold flC; rw [if_neg (by rw [h]; exact he)]
  obtain ⟨n1, n2, n3, n4, n5, n6, n7, n8, n9, n10, n11, n12, n13, n14, n15, n16, n17⟩ := nil_is hC
  exact ⟨n1, n2, n3, n4, n5, n6, n7, n8, n9, n10, n11, n12, n13, n14, n15, n16, n17, h.symm⟩
theorem flt_max {c : Cel} (h : CelMax c) (k a : Int) : CelMax (fltC c k a) := by
  obtain ⟨_, e1, _, e2, _, _, _, _, _, _, e3, _⟩ := fltC_n c k a
  unfold CelMax at h ⊢
  rw [e1, e2, e3]; exact h
theorem flt_case {c : Cel} {k a : Int} {X : Cel} (hX : X = fltC c k a) (hm : CelMax c) (h : celB c = true) (hf : fltB k a = true) :
    CelMax X ∧ (celB X = false → 0 = (flC c k a).cap ∧ (flC c k a).ocv.nx = 0 ∧ (flC c k a).ocv.ny = 0 ∧ 0 = (flC c k a).shift ∧ (flC c k a).cold.nx = 0 ∧ (flC c k a).cold.ny = 0 ∧ 0 = (flC c k a).extra ∧ 0 = (flC c k a).pair ∧ 0 = (flC c k a).keep ∧ 0 = (flC c k a).leak ∧ 0 = (flC c k a).hcap ∧ 0 = (flC c k a).cool ∧ (flC c k a).stress.nx = 0 ∧ (flC c k a).stress.ny = 0 ∧ 0 = (flC c k a).cyc ∧ 0 = (flC c k a).agel ∧ 0 = (flC c k a).grow ∧ 3 = flE c k a) ∧ (celB X = true → CelFew X ∧ X.cap = (flC c k a).cap ∧ X.ocv.nx = (flC c k a).ocv.nx ∧ (∀ j : Nat, j < (flC c k a).ocv.nx → X.ocv.x j = (flC c k a).ocv.x j) ∧ X.ocv.ny = (flC c k a).ocv.ny ∧ (∀ j : Nat, j < (flC c k a).ocv.ny → X.ocv.y j = (flC c k a).ocv.y j) ∧ X.shift = (flC c k a).shift ∧ X.cold.nx = (flC c k a).cold.nx ∧ (∀ j : Nat, j < (flC c k a).cold.nx → X.cold.x j = (flC c k a).cold.x j) ∧ X.cold.ny = (flC c k a).cold.ny ∧ (∀ j : Nat, j < (flC c k a).cold.ny → X.cold.y j = (flC c k a).cold.y j) ∧ X.extra = (flC c k a).extra ∧ X.pair = (flC c k a).pair ∧ X.keep = (flC c k a).keep ∧ X.leak = (flC c k a).leak ∧ X.hcap = (flC c k a).hcap ∧ X.cool = (flC c k a).cool ∧ X.stress.nx = (flC c k a).stress.nx ∧ (∀ j : Nat, j < (flC c k a).stress.nx → X.stress.x j = (flC c k a).stress.x j) ∧ X.stress.ny = (flC c k a).stress.ny ∧ (∀ j : Nat, j < (flC c k a).stress.ny → X.stress.y j = (flC c k a).stress.y j) ∧ X.cyc = (flC c k a).cyc ∧ X.agel = (flC c k a).agel ∧ X.grow = (flC c k a).grow ∧ 0 = flE c k a) := by
  subst hX
  refine ⟨flt_max hm k a, fun hb => flC_n (flE_3 h hf hb) (by decide), fun hb => ?_⟩
  have e := flE_0 h hf hb
  have hC : flC c k a = fltC c k a := by unfold flC; rw [if_pos e]
  rw [hC, e]
  refine ⟨(celB_iff.1 hb).few, ?_⟩
  simp
def fauS : Spec [celSh, .agg [.int .i64, .int .i64]] := ⟨fun (c, _) => CelMax (celOf c), fun (c, ((k : Int), (a : Int), _), _) => .tup [enc celSh (celD (flC (celOf c) k a)), .si .i64 (flE (celOf c) k a)]⟩
set_option maxRecDepth 100000 in
set_option maxHeartbeats 4000000 in
theorem fau_ok : FnSpec Try.prog 12 _ fauS := by
  refine FnSpec.of SAc_ok mixed (U := 0) (I := fun _ => []) Try.func12 rfl (by kernel_rfl) rfl rfl (by decide +kernel) ?_
  rintro ⟨c, ⟨(k : Int), (a : Int), ⟨⟩⟩, ⟨⟩⟩ hpre
  obtain ⟨c, rfl⟩ := cel_ex c
  have hc : CelMax c := by have : CelMax (celOf (celD c)) := hpre; rwa [celOf_D] at this
  unfold FnSat
  conv => arg 2; reduce
  simp [-Bool.forall_bool, -celOf_mk, fauS, ccheckS, betS, kepS, enc_cel, celOf_x, celX_id, ElEq, getB, goneB, aliveB, and_assoc]
  refine ⟨hc, fun p1 p2 p3 p4 p5 p6 => ⟨p1, p2, p3, p4, p5, p6⟩, fun q => flC_n (flE_2 ?_) (by decide), ?_⟩
  · cases hb : celB c with
    | false => rfl
    | true =>
      rw [Bool.true_and]
      unfold fltB
      rw [hb] at q
      simp at q
      cases hx : (decide (0 ≤ k) && decide (k ≤ 4) && decide (0 ≤ a) && decide (a ≤ 1048576) && (decide (a = 0) || !(decide (k = 0) || decide (k = 4)))) with
      | false => rfl
      | true => simp at hx; omega
  · intro p1 p2 p3 p4 p5 p6
    have hf : fltB k a = true := by
      unfold fltB
      simp
      omega
    have hk := celB_iff.1 p1
    have := hk.lk0
    have := hk.lk1
    have := hk.ex0
    have := hk.ex1
    have := hk.cap0
    have := hk.cap1
    refine ⟨fun e => ?_, fun n1 => ⟨fun e => ?_, fun n2 => ⟨fun e => ?_, fun n3 => ⟨fun e => ?_, fun n4 => ?_⟩⟩⟩⟩
    · exact ⟨by omega, by omega, flt_case (by rw [celX_flt]; simp [e]) hc p1 hf⟩
    · exact ⟨by omega, by omega, flt_case (by rw [celX_flt]; simp [e]) hc p1 hf⟩
    · exact ⟨by omega, by omega, flt_case (by rw [celX_flt]; simp [e]) hc p1 hf⟩
    · exact flt_case (by rw [celX_flt]; simp [e]) hc p1 hf
    · exact flt_case (by rw [celX_flt, if_neg n3, if_neg n2, if_neg n1, if_neg n4, celX_id]) hc p1 hf
noncomputable def SAd : Sums := ⟨(12, mkSum _ fauS) :: SAc.one, SAc.two, SAc.lo, SAc.eqs, SAc.its, SAc.imm⟩
theorem SAd_ok : SumsOK Try.prog SAd := (SAc_ok.cons Try.func12 (by kernel_rfl) (by kernel_rfl) fau_ok)
end
end Abs
end Go.Proofs.Ytbfdmfplhphilaa

/- Cells with offsets, by the program: what is answered is new. -/
namespace Go.Proofs.Ytbfdmfplhphilaa
namespace Abs
open Go Go.RowKit
noncomputable section
attribute [local irreducible] FnSat
/-- a cell whose curves are rows of one's own -/
def celR (c : Cel) (i : Nat) : AV := .agg [.si .i64 c.cap, .row i, .row (i + 1), .si .i64 c.shift, .row (i + 2), .row (i + 3), .si .i64 c.extra, .si .i64 c.pair, .si .i64 c.keep, .si .i64 c.leak, .si .i64 c.hcap, .si .i64 c.cool, .row (i + 4), .row (i + 5), .si .i64 c.cyc, .si .i64 c.agel, .si .i64 c.grow]
def celH (c : Cel) : Heap := [.row 2 1 (.sym c.ocv.nx) (fun k => [.si .i64 (c.ocv.x k)]), .row 2 1 (.sym c.ocv.ny) (fun k => [.si .i64 (c.ocv.y k)]), .row 2 1 (.sym c.cold.nx) (fun k => [.si .i64 (c.cold.x k)]), .row 2 1 (.sym c.cold.ny) (fun k => [.si .i64 (c.cold.y k)]), .row 2 1 (.sym c.stress.nx) (fun k => [.si .i64 (c.stress.x k)]), .row 2 1 (.sym c.stress.ny) (fun k => [.si .i64 (c.stress.y k)])]
def kepN : SpecN [celSh] := ⟨fun (c, _) => CelFew (celOf c), fun (c, _) => celR (celOf c) 2, fun (c, _) => .dead :: .dead :: celH (celOf c)⟩
set_option maxRecDepth 100000 in
set_option maxHeartbeats 2000000 in
theorem kepN_ok : FnSpecN Try.prog 31 _ kepN := by
  refine FnSpecN.of SBq_ok mixed (U := 4) (I := fun _ => []) Try.func31 rfl (by kernel_rfl) rfl rfl (by decide +kernel) ?_
  rintro ⟨c, ⟨⟩⟩ hpre
  obtain ⟨c, rfl⟩ := cel_ex c
  have hpre : CelFew c := by have : CelFew (celOf (celD c)) := hpre; rwa [celOf_D] at this
  obtain ⟨h0, h1, h2, h3, h4, h5, h6⟩ := hpre
  unfold FnSat
  conv => arg 2; reduce
  simp [kepN, celR, celH, maxRow, ElEq, getB, goneB, aliveB, and_assoc]
  omega
noncomputable def SAq : Sums := ⟨(31, mkSumN _ kepN) :: SAb.one, SAb.two, SAb.lo, SAb.eqs, SAb.its, SAb.imm⟩
theorem SAq_ok : SumsOK Try.prog SAq := (SAb_ok.add Try.func31 (by kernel_rfl) (by kernel_rfl) (mkSumN_ok kepN_ok))
def aplN : SpecN [celSh, intsSh] := ⟨fun (c, (n, el), _) => CelMax (celOf c) ∧ n ≤ maxLen ∧ apE (celOf c) n (fun k => (el k).1) = 0, fun (c, (_, el), _) => .tup [celR (mvC (celOf c) (fun k => (el k).1)) 4, .si .i64 0], fun (c, (_, el), _) => .dead :: .dead :: .dead :: .dead :: celH (mvC (celOf c) (fun k => (el k).1))⟩
set_option maxRecDepth 100000 in
set_option maxHeartbeats 4000000 in
theorem aplN_ok : FnSpecN Try.prog 7 _ aplN := by
  refine FnSpecN.of SAq_ok mixed (U := 0) (I := aplI) Try.func7 rfl (by kernel_rfl) rfl rfl (by decide +kernel) ?_
  rintro ⟨c, ⟨n, el⟩, ⟨⟩⟩ hpre
  obtain ⟨c, rfl⟩ := cel_ex c
  obtain ⟨v, rfl⟩ : ∃ v : Nat → Int, el = fun k => (v k, ()) := ⟨fun k => (el k).1, rfl⟩
  have hpre : CelMax c ∧ n ≤ maxLen ∧ apE c n v = 0 := by have : CelMax (celOf (celD c)) ∧ n ≤ maxLen ∧ apE (celOf (celD c)) n v = 0 := hpre; rwa [celOf_D] at this
  obtain ⟨hc, hn, h0⟩ := hpre
  obtain ⟨hb, rfl, hq, hm⟩ := apE_iff.1 h0
  unfold FnSat
  conv => arg 2; reduce
  simp [aplN, ccheckS, num0, isqS, moAp, kepN, celR, celH, celOf_mv, ElEq, getB, goneB, aliveB, and_assoc]
  have ho : ofsB v := by
    unfold ofsB
    intro k hk
    exact isQ_iff.1 (hq k hk)
  exact ⟨hc, hb, fun _ => ⟨⟨0, rfl, by omega, fun k hk => by omega⟩, fun g hg hall => ⟨fun hlt => ⟨hlt, hq g (by omega), fun _ => ⟨by omega, by omega, g + 1, by omega, by omega, fun k hk => hq k (by omega), by omega⟩⟩, fun _ => ⟨hb, ho, mvM hc v, hm, fun _ => (celB_iff.1 hm).few⟩⟩⟩⟩

end
end Abs
end Go.Proofs.Ytbfdmfplhphilaa

/- Boxes of one point: lists of points, equal boxes; what a box of one point leads to. -/
namespace Go.Proofs.Ytbfdmfplhphilaa
namespace Abs
open Go Go.RowKit
noncomputable section
attribute [local irreducible] FnSat
def ptsS : SpecN [intsSh] := ⟨fun (x, _) => x.1 ≤ 4096, fun _ => .row 0, fun ((n, el), _) => [.row 42 2 (.sym n) (fun k => [.si .i64 (el k).1, .si .i64 (el k).1])]⟩
def ptsI : DatL [intsSh] → Anns := fun ((n, el), _) => [
  (3, [(3, 42, 2)], fun fr hp => ⟨Nat, fun g => ⟨frI [.k 4, .s (.si .i64 (icast g)), .t 19] fr, putRL hp (.sym g) (fun k => [.si .i64 (el k).1, .si .i64 (el k).1])⟩, Nat × Nat, fun g => (g, n), fun (g, n) => g ≤ n, fun g => nsub n g⟩)]
@[irreducible] def smsV (n m : Nat) (a b c d : Nat → Int) : Bool := decide (n = m) && allN (fun k => decide (a k = c k) && decide (b k = d k)) n
theorem smsV_iff {n m : Nat} {a b c d : Nat → Int} : smsV n m a b c d = true ↔ n = m ∧ ∀ k, k < n → a k = c k ∧ b k = d k := by
  unfold smsV; rw [Bool.and_eq_true, decide_eq_true_eq, allN_iff]; simp
theorem smsV_no {n m : Nat} {a b c d : Nat → Int} (h : smsV n m a b c d = true → False) : smsV n m a b c d = false := by
  cases hb : smsV n m a b c d with
  | false => rfl
  | true => exact (h hb).elim
def smsS : Spec [spansSh, spansSh] := ⟨fun (x, y, _) => x.1 ≤ maxLen, fun ((n, f), (m, g), _) => .sb (smsV n m (fun k => (f k).1) (fun k => (f k).2.1) (fun k => (g k).1) (fun k => (g k).2.1))⟩
def smsI : DatL [spansSh, spansSh] → Anns := fun ((n, f), (m, g), _) =>
  [(4, [], fun fr hp => ⟨Nat, fun k => ⟨frI [.k 5, .s (.si .i64 (icast k)), .k 5, .t 15] fr, hp⟩, Nat × (Nat → Int × Int × Unit) × (Nat → Int × Int × Unit), fun k => (k, f, g), fun (k, f, g) => k ≤ n ∧ ∀ j, j < k → (f j).1 = (g j).1 ∧ (f j).2.1 = (g j).2.1, fun k => nsub n k⟩)]
noncomputable def SPo : Sums := ⟨SBq.one, SBq.two, SBq.lo, SBq.eqs, SBq.its, SBq.imm⟩
theorem SPo_ok : SumsOK Try.prog SPo := SBq_ok
-- literal rows, element by element
@[irreducible] def sel2 (i a : Int) (k : Nat) : Int := match k with | 0 => i | 1 => a | _ => 0
theorem sel2_0 (i a : Int) : sel2 i a 0 = i := by unfold sel2; rfl
theorem sel2_1 (i a : Int) : sel2 i a 1 = a := by unfold sel2; rfl
theorem dec_row2 (i a : Int) (k : Nat) : (decL [.int .i64] (rowAt 1 [.si .i64 i, .si .i64 a] k)).1 = sel2 i a k := by
  unfold sel2
  match k with
  | 0 => rfl
  | 1 => rfl
  | n + 2 =>
    show (decL [.int .i64] (rowAt 1 [] n)).1 = 0
    induction n with
    | zero => rfl
    | succ n ih => exact ih
theorem can_row2 (i a : Int) (k : Nat) (hk : k < 2) : CanL [.int .i64] (rowAt 1 [.si .i64 i, .si .i64 a] k) := by
  match k, hk with
  | 0, _ => simp [rowAt, takeL, dropL]
  | 1, _ => simp [rowAt, takeL, dropL]
theorem decL_cons (s : Sh) (l : List Sh) (a : AV) (m : List AV) : decL (s :: l) (a :: m) = (dec s a, decL l m) := rfl
theorem dec_int (q q' : IntKind) (n : Int) : dec (.int q) (.si q' n) = n := rfl
theorem dec_inl (q q' : IntKind) (n : Int) : dec (.int q) (.li q' n) = n := rfl
-- boxes of one point
theorem mvC_zero (c : Cel) : mvC c (fun _ => 0) = c := by
  unfold mvC
  simp only [Int.add_zero]
  unfold Cel.cap Cel.ocv Cel.shift Cel.cold Cel.extra Cel.pair Cel.keep Cel.leak Cel.hcap Cel.cool Cel.stress Cel.cyc Cel.agel Cel.grow
  rfl
@[irreducible] def stV (s : Sta) : Nat → Int := sel5 s.q s.rx s.tp s.th s.ag
theorem stV_n (s : Sta) : stV s 0 = s.q ∧ stV s 1 = s.rx ∧ stV s 2 = s.tp ∧ stV s 3 = s.th ∧ stV s 4 = s.ag := by unfold stV; simp
theorem sel5_st (s : Sta) (k : Nat) : sel5 s.q s.rx s.tp s.th s.ag k = stV s k := by unfold stV; rfl
theorem pt_box {c : Cel} {s : Sta} (h : celB c = true) (hs : StOK c s) : BoxOK (stV s) (stV s) := by
  obtain ⟨e0, e1, e2, e3, e4⟩ := stV_n s
  have k := kV_in h hs
  have q := q_in hs
  have := hs.t0
  have := hs.t1
  have := hs.h0
  have := hs.h1
  have := hs.a0
  have := hs.a1
  have := hs.r0
  have := hs.r1
  constructor <;> omega
theorem pt_chk {c : Cel} {s : Sta} (h : celB c = true) (hs : StOK c s) : ChkOK c 7 (fun _ => 0) (fun _ => 0) 5 (stV s) (stV s) :=
  ⟨h, rfl, rfl, by rw [mvC_zero]; exact h, by rw [mvC_zero]; exact h, fun _ _ => spanOK_iff.2 (by omega), pt_box h hs⟩
@[irreducible] def ptW (c : Cel) (s : Sta) : Wid := widV c (fun _ => 0) (fun _ => 0) 5 (stV s) (stV s)
theorem ptW_n (c : Cel) (s : Sta) : (ptW c s).lo = c ∧ (ptW c s).hi = c ∧ (ptW c s).bl = stV s ∧ (ptW c s).bh = stV s ∧ (ptW c s).fl = fillV c s ∧ (ptW c s).fh = fillV c s ∧ (ptW c s).rl = rV c s ∧ (ptW c s).rh = rV c s := by
  obtain ⟨e0, e1, e2, e3, e4⟩ := stV_n s
  unfold ptW
  rw [widV_lo, widV_hi, widV_bl, widV_bh, widV_fl, widV_fh, widV_rl, widV_rh, mvC_zero]
  have ew : wdWL c (stV s) = wV c s := by unfold wdWL wV; rw [e3, e4]
  refine ⟨rfl, rfl, rfl, rfl, ?_, ?_, ?_, ?_⟩
  · unfold wdFL fillV kV; rw [mvC_zero, ew, e0]
  · unfold wdFH fillV kV; rw [mvC_zero, ew, e0]
  · unfold wdRL rV; rw [mvC_zero, ew, e2]
  · unfold wdRH rV; rw [mvC_zero, ew, e2]
theorem pr_one (i r : Int) : prL i i r r = i * r ∧ prH i i r r = i * r := by unfold prL prH; omega
theorem sq_one (i : Int) : sqL i i = i * i ∧ sqH i i = i * i := by
  unfold sqL sqH
  constructor
  · split
    · have : i = 0 := by omega
      subst this; rfl
    · omega
  · omega
theorem pt_volt (c : Cel) (s : Sta) (i : Int) : wvL (ptW c s) i i = voltV c s i ∧ wvH (ptW c s) i i = voltV c s i := by
  obtain ⟨e0, e1, e2, e3, e4⟩ := stV_n s
  obtain ⟨f1, f2, f3, f4, f5, f6, f7, f8⟩ := ptW_n c s
  unfold wvL wvH voltV opnV
  rw [f1, f2, f3, f4, f5, f6, f7, f8, e1, (pr_one i (rV c s)).1, (pr_one i (rV c s)).2]
  exact ⟨rfl, rfl⟩
theorem pt_heat (c : Cel) (s : Sta) (i : Int) : whL (ptW c s) i i = heatV c s i ∧ whH (ptW c s) i i = heatV c s i := by
  obtain ⟨e0, e1, e2, e3, e4⟩ := stV_n s
  obtain ⟨f1, f2, f3, f4, f5, f6, f7, f8⟩ := ptW_n c s
  unfold whL whH heatV
  rw [f1, f2, f3, f4, f7, f8, e1, (sq_one i).1, (sq_one i).2, (sq_one s.rx).1, (sq_one s.rx).2]
  refine ⟨rfl, ?_⟩
  by_cases hp : 0 < c.pair
  · rw [if_pos hp, if_pos hp, show max 1 c.pair = c.pair by omega]
  · rw [if_neg hp, if_neg hp]
theorem pt_temp (c : Cel) (s : Sta) (i a : Int) : wtL (ptW c s) i i a a = nxT c s i a ∧ wtH (ptW c s) i i a a = nxT c s i a := by
  obtain ⟨e0, e1, e2, e3, e4⟩ := stV_n s
  obtain ⟨f1, f2, f3, f4, f5, f6, f7, f8⟩ := ptW_n c s
  obtain ⟨g1, g2⟩ := pt_heat c s i
  unfold wtL wtH nxT
  rw [g1, g2, f1, f2, f3, f4, e2]
  constructor
  · congr 2; omega
  · congr 2; omega
theorem pt_next (c : Cel) (s : Sta) (i a : Int) (k : Nat) (hk : k < 5) :
    nbL (ptW c s) i i a a k = stV ⟨nxQ c s i, nxR c s i, nxT c s i a, nxH s i, nxA c s⟩ k ∧ nbH (ptW c s) i i a a k = stV ⟨nxQ c s i, nxR c s i, nxT c s i a, nxH s i, nxA c s⟩ k := by
  obtain ⟨e0, e1, e2, e3, e4⟩ := stV_n s
  obtain ⟨f1, f2, f3, f4, f5, f6, f7, f8⟩ := ptW_n c s
  obtain ⟨g0, g1, g2, g3, g4⟩ := stV_n ⟨nxQ c s i, nxR c s i, nxT c s i a, nxH s i, nxA c s⟩
  simp only [Sta.q_mk, Sta.rx_mk, Sta.tp_mk, Sta.th_mk, Sta.ag_mk] at g0 g1 g2 g3 g4
  have hH : nbTL (ptW c s) i i = nxH s i ∧ nbTH (ptW c s) i i = nxH s i := by
    unfold nbTL nbTH nxH
    rw [f3, f4, e3]
    constructor
    · congr 1; omega
    · rfl
  have hA : nbAL (ptW c s) = nxA c s ∧ nbAH (ptW c s) = nxA c s := by
    unfold nbAL nbAH nxA
    rw [f1, f3, f4, e4, e2]
    exact ⟨rfl, rfl⟩
  match k, hk with
  | 0, _ =>
    rw [(nb_0 _ _ _ _ _).1, (nb_0 _ _ _ _ _).2, g0]
    unfold nbQL nbQH nxQ
    rw [hH.1, hH.2, hA.1, hA.2, f1, f2, f3, f4, e0]
    exact ⟨rfl, rfl⟩
  | 1, _ =>
    rw [(nb_1 _ _ _ _ _).1, (nb_1 _ _ _ _ _).2, g1]
    unfold nbRL nbRH nxR
    rw [f1, f2, f3, f4, e1, (pr_one i c.pair).1, (pr_one i c.pair).2]
    exact ⟨rfl, rfl⟩
  | 2, _ => rw [(nb_2 _ _ _ _ _).1, (nb_2 _ _ _ _ _).2, g2]; exact pt_temp c s i a
  | 3, _ => rw [(nb_3 _ _ _ _ _).1, (nb_3 _ _ _ _ _).2, g3]; exact hH
  | 4, _ => rw [(nb_4 _ _ _ _ _).1, (nb_4 _ _ _ _ _).2, g4]; exact hA
theorem pt_sbE {c : Cel} {s : Sta} {i a : Int} (h : csE c s = 0) (p q : Nat → Int) (p0 : p 0 = i) (q0 : q 0 = i) (p1 : p 1 = a) (q1 : q 1 = a) :
    sbE c 7 (fun _ => 0) (fun _ => 0) 5 (stV s) (stV s) 2 p q = 0 ↔ stAE c s i a = 0 := by
  obtain ⟨hc, hs⟩ := csE_iff.1 h
  rw [sbE_iff, (stA_iff h).1]
  have e1 : chkV c 7 (fun _ => 0) (fun _ => 0) 5 (stV s) (stV s) = 0 := chk_iff.2 (pt_chk hc hs)
  have e2 : inpB 2 p q = true ↔ inB i a = true := by
    rw [inpB_iff, p0, q0, p1, q1, insV_iff, insV_iff, inB_iff]
    constructor
    · rintro ⟨-, ⟨a1, -, a2⟩, b1, -, b2⟩; exact ⟨⟨a1, a2⟩, b1, b2⟩
    · rintro ⟨⟨a1, a2⟩, b1, b2⟩; exact ⟨rfl, ⟨a1, Int.le_refl _, a2⟩, b1, Int.le_refl _, b2⟩
  have e3 : farB (widV c (fun _ => 0) (fun _ => 0) 5 (stV s) (stV s)) (p 0) (q 0) = true ↔ ovr c s i = false := by
    have w : widV c (fun _ => 0) (fun _ => 0) 5 (stV s) (stV s) = ptW c s := by unfold ptW; rfl
    have n3 := (pt_next c s i a 3 (by decide)).2
    have n4 := (pt_next c s i a 4 (by decide)).2
    obtain ⟨g0, g1, g2, g3, g4⟩ := stV_n ⟨nxQ c s i, nxR c s i, nxT c s i a, nxH s i, nxA c s⟩
    rw [(nb_3 _ _ _ _ _).2, g3, Sta.th_mk] at n3
    rw [(nb_4 _ _ _ _ _).2, g4, Sta.ag_mk] at n4
    rw [farB_iff, w, p0, q0, n3, n4]
    unfold ovr
    simp
  rw [e1, e2, e3]
  simp
end
end Abs
end Go.Proofs.Ytbfdmfplhphilaa

/- Tolerances and boxes by the document; numbers chosen in boxes, parts of boxes. -/
namespace Go.Proofs.Ytbfdmfplhphilaa
namespace Abs
open Go Go.RowKit
noncomputable section
attribute [local irreducible] FnSat
set_option maxRecDepth 100000 in
theorem rqy_ok : FnSpec Try.prog 33 _ isS := by
  refine FnSpec.of SPo_ok mixed (U := 0) (I := fun _ => []) Try.func33 rfl (by kernel_rfl) rfl rfl (by decide +kernel) ?_
  rintro ⟨(x : Int), ⟨⟩⟩ -
  unfold FnSat
  conv => arg 2; reduce
  simp [isS, betS, isQ]
noncomputable def SUa : Sums := ⟨(33, mkSum _ isS) :: SPo.one, SPo.two, SPo.lo, SPo.eqs, SPo.its, SPo.imm⟩
theorem SUa_ok : SumsOK Try.prog SUa := (SPo_ok.cons Try.func33 (by kernel_rfl) (by kernel_rfl) rqy_ok)
def rspI : DatL [spansSh, .int .i64] → Anns := fun ((n, el), (m : Int), _) => [
  (4, [], fun fr hp => ⟨Nat, fun g => ⟨frI [.k 5, .s (.si .i64 (icast g)), .k 4, .t 3, .t 31] fr, hp⟩, Nat × Nat × (Nat → Int) × (Nat → Int), fun g => (g, n, (fun k => (el k).1), (fun k => (el k).2.1)), fun (g, n, lo, hi) => g ≤ n ∧ ∀ k, k < g → spanOK (lo k) (hi k) = true, fun g => nsub n g⟩)]
set_option maxRecDepth 100000 in
theorem rsp_ok : FnSpec Try.prog 38 _ vldS := by
  refine FnSpec.of SUa_ok mixed (U := 0) (I := rspI) Try.func38 rfl (by kernel_rfl) rfl rfl (by decide +kernel) ?_
  rintro ⟨⟨n, el⟩, (m : Int), ⟨⟩⟩ (hn : n ≤ maxLen)
  obtain ⟨lo, hi, rfl⟩ : ∃ lo hi : Nat → Int, el = fun k => (lo k, hi k, ()) := ⟨fun k => (el k).1, fun k => (el k).2.1, rfl⟩
  unfold FnSat
  conv => arg 2; reduce
  unfold maxLen at hn
  simp [vldS, isS, and_assoc]
  have no : (vldB n lo hi m = true → False) → vldB n lo hi m = false := fun h => by cases hb : vldB n lo hi m with | false => rfl | true => exact (h hb).elim
  refine ⟨fun h => no fun hb => h (vldB_iff.1 hb).1, fun h => ⟨⟨0, rfl, by omega, fun k hk => by omega⟩, fun g hg hf => ⟨fun hlt => ⟨by omega, fun _ => by omega, fun _ _ => by omega, fun hb => no fun hv => ?_, fun b1 b2 b3 => ⟨by omega, by omega, g + 1, by omega, by omega, fun k hk => ?_, by omega⟩⟩, fun hge => vldB_iff.2 ⟨h, fun k hk => hf k (by omega)⟩⟩⟩⟩
  · have := (vldB_iff.1 hv).2 g (by omega)
    unfold spanOK at this
    rw [Bool.and_eq_true, Bool.and_eq_true, decide_eq_true_eq] at this
    rcases hb with (q | q) | q
    · rw [this.1.1] at q; cases q
    · rw [this.1.2] at q; cases q
    · omega
  · by_cases h' : k < g
    · exact hf k h'
    · obtain rfl : k = g := by omega
      unfold spanOK
      rw [b1, b2]
      simp [b3]
def renS : Spec [spansSh] := ⟨fun (x, _) => x.1 ≤ 4096, fun ((n, el), _) => .tup [.slc (.sym n) 1 (fun k => [.si .i64 (el k).1]), .slc (.sym n) 1 (fun k => [.si .i64 (el k).2.1])]⟩
def renI : DatL [spansSh] → Anns := fun ((n, el), _) => [
  (3, [(4, 2, 1), (5, 2, 1)], fun fr hp => ⟨Nat, fun g => ⟨frI [.k 6, .s (.si .i64 (icast g)), .t 24] fr, putR (putR hp 0 (.sym g) (fun k => [.si .i64 (el k).1])) 1 (.sym g) (fun k => [.si .i64 (el k).2.1])⟩, Nat × Nat, fun g => (g, n), fun (g, n) => g ≤ n, fun g => nsub n g⟩)]
set_option maxRecDepth 100000 in
theorem ren_ok : FnSpec Try.prog 39 _ renS := by
  refine FnSpec.of SUa_ok mixed (U := 0) (I := renI) Try.func39 rfl (by kernel_rfl) rfl rfl (by decide +kernel) ?_
  rintro ⟨⟨n, el⟩, ⟨⟩⟩ (hn : n ≤ 4096)
  obtain ⟨lo, hi, rfl⟩ : ∃ lo hi : Nat → Int, el = fun k => (lo k, hi k, ()) := ⟨fun k => (el k).1, fun k => (el k).2.1, rfl⟩
  unfold FnSat
  conv => arg 2; reduce
  simp [renS, maxRow, ElEq, aliveB, goneB, getB, and_assoc]
  refine ⟨⟨0, rfl, rfl, fun j => by omega, rfl, fun j => by omega, by omega⟩, fun g hg => ⟨fun hlt => ⟨hlt, by omega, hlt, by omega, by omega, by omega, g + 1, by omega, rfl, fun j hj => app_one hj (fun _ => rfl) (fun h => ?_), rfl, fun j hj => app_one hj (fun _ => rfl) (fun h => ?_), by omega, by omega⟩, fun hge => by omega⟩⟩
  · subst h; rfl
  · subst h; rfl
def rplS : Spec [celSh, intsSh] := ⟨fun (c, (n, el), _) => celB (celOf c) = true ∧ n = 7 ∧ ofsB (fun k => (el k).1), fun (c, (_, el), _) => mvA (celOf c) (fun k => (el k).1)⟩
set_option maxRecDepth 100000 in
set_option maxHeartbeats 4000000 in
theorem rpl_ok : FnSpec Try.prog 34 _ rplS := by
  refine FnSpec.of SUa_ok mixed (U := 0) (I := fun _ => []) Try.func34 rfl (by kernel_rfl) rfl rfl (by decide +kernel) ?_
  rintro ⟨c, ⟨n, el⟩, ⟨⟩⟩ hpre
  obtain ⟨c, rfl⟩ := cel_ex c
  obtain ⟨lo, rfl⟩ : ∃ lo : Nat → Int, el = fun k => (lo k, ()) := ⟨fun k => (el k).1, rfl⟩
  have hpre : celB c = true ∧ n = 7 ∧ ofsB lo := by have : celB (celOf (celD c)) = true ∧ n = 7 ∧ ofsB lo := hpre; rwa [celOf_D] at this
  obtain ⟨hc, rfl, ho⟩ := hpre
  unfold FnSat
  conv => arg 2; reduce
  simp [rplS, ElEq, getB, goneB, aliveB, and_assoc]
  have hk := celB_iff.1 hc
  unfold ofsB at ho
  have a0 := ho 0 (by decide)
  have a1 := ho 1 (by decide)
  have a2 := ho 2 (by decide)
  have a3 := ho 3 (by decide)
  have a4 := ho 4 (by decide)
  have a5 := ho 5 (by decide)
  have a6 := ho 6 (by decide)
  have := hk.cap0
  have := hk.cap1
  have := hk.sh0
  have := hk.sh1
  have := hk.ex0
  have := hk.ex1
  have := hk.pr0
  have := hk.pr1
  have := hk.lk0
  have := hk.lk1
  have := hk.hc0
  have := hk.hc1
  have := hk.co0
  have := hk.co1
  omega
set_option maxRecDepth 100000 in
theorem rin_ok2 : FnSpec Try.prog 63 _ insC := by
  refine FnSpec.of SUa_ok mixed (U := 0) (I := fun _ => []) Try.func63 rfl (by kernel_rfl) rfl rfl (by decide +kernel) ?_
  rintro ⟨⟨(l : Int), (h : Int), ⟨⟩⟩, (a : Int), (b : Int), ⟨⟩⟩ -
  unfold FnSat
  conv => arg 2; reduce
  simp [insC]
  rw [Bool.eq_iff_iff, insV_iff]
  simp
  omega
-- numbers chosen
@[irreducible] def chV (lo hi x : Int) : Int := if x = 1 then hi else lo + x % (hi - lo + 1)
theorem chV_in {lo hi x : Int} (h : lo ≤ hi) : lo ≤ chV lo hi x ∧ chV lo hi x ≤ hi := by
  unfold chV
  split
  · omega
  · have h1 := Int.emod_nonneg x (show hi - lo + 1 ≠ 0 by omega)
    have h2 := Int.emod_lt_of_pos x (show 0 < hi - lo + 1 by omega)
    omega
@[irreducible] def pkV (n : Nat) (p : Nat → Int) (i : Nat) : Int := if i < n then p i else 0
@[reducible] def pkSh : Sh := .slice 1 [.int .u64]
def pksOK (n : Nat) (p : Nat → Int) : Prop := n ≤ maxLen ∧ ∀ k, k < n → 0 ≤ p k ∧ p k ≤ 18446744073709551615
theorem pkV_in {n : Nat} {p : Nat → Int} (h : pksOK n p) (i : Nat) : 0 ≤ pkV n p i ∧ pkV n p i ≤ 18446744073709551615 := by
  unfold pkV
  split
  · exact h.2 i (by assumption)
  · omega
def linS : Spec [spanSh, .int .u64] := ⟨fun (((lo : Int), (hi : Int), _), (x : Int), _) => spanOK lo hi = true ∧ 0 ≤ x ∧ x ≤ 18446744073709551615 ∧ ¬ x = 1, fun (((lo : Int), (hi : Int), _), (x : Int), _) => .si .i64 (chV lo hi x)⟩
set_option maxRecDepth 100000 in
theorem lin_ok : FnSpec Try.prog 64 _ linS := by
  refine FnSpec.of SUa_ok mixed (U := 0) (I := fun _ => []) Try.func64 rfl (by kernel_rfl) rfl rfl (by decide +kernel) ?_
  rintro ⟨⟨(lo : Int), (hi : Int), ⟨⟩⟩, (x : Int), ⟨⟩⟩ ⟨hs, (x0 : 0 ≤ x), (x1 : x ≤ 18446744073709551615), hx⟩
  unfold FnSat
  conv => arg 2; reduce
  simp [linS, and_assoc]
  have hs := spanOK_iff.1 hs
  have ew : IntKind.u64.wrap (hi - lo + 1) = hi - lo + 1 := wrap_u64 (by omega) (by omega)
  have e2 : x.tmod (hi - lo + 1) = x % (hi - lo + 1) := Int.tmod_eq_emod_of_nonneg x0
  have h1 := Int.emod_nonneg x (show hi - lo + 1 ≠ 0 by omega)
  have h2 := Int.emod_lt_of_pos x (show 0 < hi - lo + 1 by omega)
  rw [ew, e2]
  exact ⟨by omega, by omega, by omega, by omega, by omega, by omega, by omega, by omega, by omega, by unfold chV; rw [if_neg hx]⟩
noncomputable def SUb : Sums := ⟨(64, mkSum _ linS) :: (63, mkSum _ insC) :: (34, mkSum _ rplS) :: (39, mkSum _ renS) :: (38, mkSum _ vldS) :: SUa.one, SUa.two, SUa.lo, SUa.eqs, SUa.its, SUa.imm⟩
theorem SUb_ok : SumsOK Try.prog SUb := (((((SUa_ok.cons Try.func38 (by kernel_rfl) (by kernel_rfl) rsp_ok).cons Try.func39 (by kernel_rfl) (by kernel_rfl) ren_ok).cons Try.func34 (by kernel_rfl) (by kernel_rfl) rpl_ok).cons Try.func63 (by kernel_rfl) (by kernel_rfl) rin_ok2).cons Try.func64 (by kernel_rfl) (by kernel_rfl) lin_ok)
set_option maxRecDepth 100000 in
set_option maxHeartbeats 2000000 in
theorem rps_ok : FnSpec Try.prog 11 _ posS := by
  refine FnSpec.of SUb_ok mixed (U := 0) (I := fun _ => []) Try.func11 rfl (by kernel_rfl) rfl rfl (by decide +kernel) ?_
  rintro ⟨c, ⟨n, el⟩, ⟨⟩⟩ hpre
  obtain ⟨c, rfl⟩ := cel_ex c
  obtain ⟨lo, hi, rfl⟩ : ∃ lo hi : Nat → Int, el = fun k => (lo k, hi k, ()) := ⟨fun k => (el k).1, fun k => (el k).2.1, rfl⟩
  have hpre : CelMax c ∧ n ≤ maxLen := by have : CelMax (celOf (celD c)) ∧ n ≤ maxLen := hpre; rwa [celOf_D] at this
  obtain ⟨hc, hn⟩ := hpre
  unfold FnSat
  conv => arg 2; reduce
  simp [posS, ccheckS, vldS, renS, rplS, celOf_mv, and_assoc]
  refine ⟨hc, fun _ => hn, fun h => (posV_arg ?_).symm, fun h1 h2 => ⟨?_, h1, (vldB_ofs h2).1, (vldB_ofs h2).2.1, mvM hc lo, fun _ => ⟨h1, (vldB_ofs h2).1, (vldB_ofs h2).2.2⟩, fun _ => mvM hc hi, fun h => (posV_rng h1 h2 ?_).symm, fun h3 h4 => (posV_ok h1 h2 h3 h4).symm⟩⟩
  · rcases h with h | h
    · rw [h]; rfl
    · rw [h, Bool.and_false]
  · have := (vldB_ofs h2).1
    omega
  · rcases h with h | h
    · rw [show celB (mvC c fun k => lo k) = false from h]; rfl
    · rw [show celB (mvC c fun k => hi k) = false from h, Bool.and_false]
def sbxS : Spec [spansSh] := ⟨fun _ => True, fun ((m, em), _) => .si .i64 (errA (boxB m (fun k => (em k).1) (fun k => (em k).2.1)))⟩
set_option maxRecDepth 100000 in
theorem rsb_ok : FnSpec Try.prog 44 _ sbxS := by
  refine FnSpec.of SUb_ok mixed (U := 0) (I := fun _ => []) Try.func44 rfl (by kernel_rfl) rfl rfl (by decide +kernel) ?_
  rintro ⟨⟨m, em⟩, ⟨⟩⟩ -
  obtain ⟨bl, bh, rfl⟩ : ∃ bl bh : Nat → Int, em = fun k => (bl k, bh k, ()) := ⟨fun k => (em k).1, fun k => (em k).2.1, rfl⟩
  unfold FnSat
  conv => arg 2; reduce
  simp [sbxS, insC, and_assoc]
  refine ⟨fun h => by omega, fun h _ => by omega, fun h _ _ => by omega, fun h _ _ _ => by omega, fun h _ _ _ _ => by omega, fun q => ?_, fun q q0 q1 q2 q3 q4 => ?_⟩
  · have hb : boxB m bl bh = false := boxB_no fun hb => by
      obtain ⟨b0, b1, b2, b3, b4, b5⟩ := boxB_iff.1 hb
      rcases q with ((((q | q) | q) | q) | q) | q
      · omega
      · rw [b1] at q; cases q
      · rw [b2] at q; cases q
      · rw [b3] at q; cases q
      · rw [b4] at q; cases q
      · rw [b5] at q; cases q
    rw [show (boxB m (fun k => bl k) fun k => bh k) = false from hb]
    exact errA_false.symm
  · have hb : boxB m bl bh = true := boxB_iff.2 ⟨by omega, q0, q1, q2, q3, q4⟩
    rw [show (boxB m (fun k => bl k) fun k => bh k) = true from hb]
    exact errA_true.symm
-- numbers chosen in a box
def chnS : Spec [spansSh, pkSh] := ⟨fun (x, y, _) => x.1 ≤ 4096 ∧ (∀ k, k < x.1 → spanOK (x.2 k).1 (x.2 k).2.1 = true) ∧ pksOK y.1 (fun k => (y.2 k).1), fun ((n, el), (m, em), _) => .slc (.sym n) 1 (fun k => [.si .i64 (chV (el k).1 (el k).2.1 (pkV m (fun j => (em j).1) k))])⟩
def chnI : DatL [spansSh, pkSh] → Anns := fun ((n, el), (m, em), _) => [
  (3, [(5, 2, 1)], fun fr hp => ⟨Nat, fun g => ⟨frI [.k 6, .s (.si .i64 (icast g)), .t 35] fr, putRL hp (.sym g) (fun k => [.si .i64 (chV (el k).1 (el k).2.1 (pkV m (fun j => (em j).1) k))])⟩, Nat × Nat, fun g => (g, n), fun (g, n) => g ≤ n, fun g => nsub n g⟩)]
set_option maxRecDepth 100000 in
theorem chn_ok : FnSpec Try.prog 45 _ chnS := by
  refine FnSpec.of SUb_ok mixed (U := 0) (I := chnI) Try.func45 rfl (by kernel_rfl) rfl rfl (by decide +kernel) ?_
  rintro ⟨⟨n, el⟩, ⟨m, em⟩, ⟨⟩⟩ hpre
  obtain ⟨lo, hi, rfl⟩ : ∃ lo hi : Nat → Int, el = fun k => (lo k, hi k, ()) := ⟨fun k => (el k).1, fun k => (el k).2.1, rfl⟩
  obtain ⟨p, rfl⟩ : ∃ p : Nat → Int, em = fun k => (p k, ()) := ⟨fun k => (em k).1, rfl⟩
  have hpre : n ≤ 4096 ∧ (∀ k, k < n → spanOK (lo k) (hi k) = true) ∧ pksOK m p := hpre
  obtain ⟨hn, hs, hp⟩ := hpre
  unfold FnSat
  conv => arg 2; reduce
  simp [chnS, linS, maxRow, ElEq, aliveB, goneB, getB, and_assoc]
  refine ⟨⟨0, rfl, rfl, fun j => by omega, by omega⟩, fun g hg => ⟨fun hlt => ⟨fun hm => ⟨hm, fun h1 => ⟨hlt, by omega, by omega, by omega, g + 1, by omega, rfl, fun j hj => app_one hj (fun _ => rfl) (fun h => ?_), by omega, by omega⟩, fun h1 => ⟨hlt, hs g hlt, (hp.2 g hm).1, (hp.2 g hm).2, h1, by omega, by omega, by omega, g + 1, by omega, rfl, fun j hj => app_one hj (fun _ => rfl) (fun h => ?_), by omega, by omega⟩⟩,
    fun hm => ⟨hlt, hs g hlt, by omega, by omega, by omega, g + 1, by omega, rfl, fun j hj => app_one hj (fun _ => rfl) (fun h => ?_), by omega, by omega⟩⟩, fun hge => by omega⟩⟩
  · subst h
    have : chV (lo j) (hi j) (pkV m (fun j => p j) j) = hi j := by unfold chV pkV; rw [if_pos hm, if_pos h1]
    rw [this]; rfl
  · subst h
    have : chV (lo j) (hi j) (pkV m (fun j => p j) j) = chV (lo j) (hi j) (p j) := by unfold pkV; rw [if_pos hm]
    rw [this]; rfl
  · subst h
    have : chV (lo j) (hi j) (pkV m (fun j => p j) j) = chV (lo j) (hi j) 0 := by unfold pkV; rw [if_neg (by omega)]
    rw [this]; rfl
@[irreducible] def rsN (n : Nat) (a : Int) : Nat := n - (min a (n : Int)).toNat
@[irreducible] def rsP (n : Nat) (a : Int) (p : Nat → Int) (k : Nat) : Int := p ((min a (n : Int)).toNat + k)
theorem rs_ok {n : Nat} {a : Int} {p : Nat → Int} (h : pksOK n p) (ha : 0 ≤ a) : pksOK (rsN n a) (rsP n a p) := by
  refine ⟨?_, fun k hk => ?_⟩
  · have := h.1
    unfold rsN; omega
  · unfold rsP
    unfold rsN at hk
    exact h.2 _ (by omega)
def rstS : Spec [pkSh, .int .i64] := ⟨fun (x, (a : Int), _) => x.1 ≤ maxLen ∧ 0 ≤ a, fun ((n, el), (a : Int), _) => .slc (.sym (rsN n a)) 1 (fun k => [.si .u64 (rsP n a (fun j => (el j).1) k)])⟩
set_option maxRecDepth 100000 in
theorem rst_ok : FnSpec Try.prog 18 _ rstS := by
  refine FnSpec.of SUb_ok mixed (U := 0) (I := fun _ => []) Try.func18 rfl (by kernel_rfl) rfl rfl (by decide +kernel) ?_
  rintro ⟨⟨n, el⟩, (a : Int), ⟨⟩⟩ ⟨(hn : n ≤ maxLen), (ha : 0 ≤ a)⟩
  obtain ⟨p, rfl⟩ : ∃ p : Nat → Int, el = fun k => (p k, ()) := ⟨fun k => (el k).1, rfl⟩
  unfold FnSat
  conv => arg 2; reduce
  simp [rstS, ElEq, and_assoc]
  refine ⟨by omega, by omega, by unfold rsN; rfl, fun j hj => by unfold rsP; rfl⟩
def witI : DatL [spansSh, spansSh] → Anns := fun ((n, f), (m, g), _) =>
  [(4, [], fun fr hp => ⟨Nat, fun k => ⟨frI [.k 5, .s (.si .i64 (icast k)), .k 5, .t 30] fr, hp⟩, Nat × (Nat → Int × Int × Unit) × (Nat → Int × Int × Unit), fun k => (k, f, g), fun (k, f, g) => k ≤ n ∧ ∀ j, j < k → (g j).1 ≤ (f j).1 ∧ (f j).2.1 ≤ (g j).2.1, fun k => nsub n k⟩)]
@[irreducible] def witB (n m : Nat) (a b c d : Nat → Int) : Bool := decide (n = m) && allN (fun k => decide (c k ≤ a k) && decide (b k ≤ d k)) n
theorem witB_iff {n m : Nat} {a b c d : Nat → Int} : witB n m a b c d = true ↔ n = m ∧ ∀ k, k < n → c k ≤ a k ∧ b k ≤ d k := by
  unfold witB; rw [Bool.and_eq_true, decide_eq_true_eq, allN_iff]; simp
theorem witB_no {n m : Nat} {a b c d : Nat → Int} (h : witB n m a b c d = true → False) : witB n m a b c d = false := by
  cases hb : witB n m a b c d with
  | false => rfl
  | true => exact (h hb).elim
def wtnS : Spec [spansSh, spansSh] := ⟨fun (x, y, _) => x.1 ≤ maxLen, fun ((n, f), (m, g), _) => .sb (witB n m (fun k => (f k).1) (fun k => (f k).2.1) (fun k => (g k).1) (fun k => (g k).2.1))⟩
set_option maxRecDepth 100000 in
theorem wtn_ok : FnSpec Try.prog 22 _ wtnS := by
  refine FnSpec.of SUb_ok mixed (U := 0) (I := witI) Try.func22 rfl (by kernel_rfl) rfl rfl (by decide +kernel) ?_
  rintro ⟨⟨n, f⟩, ⟨m, g⟩, ⟨⟩⟩ (hn : n ≤ maxLen)
  obtain ⟨a, b, rfl⟩ : ∃ a b : Nat → Int, f = fun k => (a k, b k, ()) := ⟨fun k => (f k).1, fun k => (f k).2.1, rfl⟩
  obtain ⟨c, d, rfl⟩ : ∃ c d : Nat → Int, g = fun k => (c k, d k, ()) := ⟨fun k => (g k).1, fun k => (g k).2.1, rfl⟩
  unfold FnSat
  conv => arg 2; reduce
  unfold maxLen at hn
  simp [wtnS, and_assoc]
  refine ⟨fun h => witB_no fun hs => h (by have := (witB_iff.1 hs).1; omega), fun h => ⟨⟨0, rfl, by omega, fun j hj => by omega⟩, fun k hk hall => ⟨fun h1 => ⟨h1, by omega, fun _ => h1, fun _ => by omega, fun h2 => witB_no fun hs => ?_, fun h2 h3 => ⟨by omega, by omega, k + 1, by omega, by omega, fun j hj => ?_, by omega⟩⟩, fun h1 => ?_⟩⟩⟩
  · have := (witB_iff.1 hs).2 k h1
    omega
  · by_cases hj' : j < k
    · exact hall j hj'
    · obtain rfl : j = k := by omega
      exact ⟨h2, h3⟩
  · exact witB_iff.2 ⟨by omega, fun j hj => hall j (by omega)⟩
@[irreducible] def nrL (lo hi x y : Int) : Int := min (chV lo hi x) (chV lo hi y)
@[irreducible] def nrH (lo hi x y : Int) : Int := max (chV lo hi x) (chV lo hi y)
theorem nr_in {lo hi : Int} (h : lo ≤ hi) (x y : Int) : lo ≤ nrL lo hi x y ∧ nrL lo hi x y ≤ nrH lo hi x y ∧ nrH lo hi x y ≤ hi := by
  have h1 := chV_in (x := x) h
  have h2 := chV_in (x := y) h
  unfold nrL nrH
  omega
noncomputable def SUc : Sums := ⟨(22, mkSum _ wtnS) :: (18, mkSum _ rstS) :: (45, mkSum _ chnS) :: (44, mkSum _ sbxS) :: (11, mkSum _ posS) :: SUb.one, SUb.two, SUb.lo, SUb.eqs, SUb.its, SUb.imm⟩
theorem SUc_ok : SumsOK Try.prog SUc := (((((SUb_ok.cons Try.func11 (by kernel_rfl) (by kernel_rfl) rps_ok).cons Try.func44 (by kernel_rfl) (by kernel_rfl) rsb_ok).cons Try.func45 (by kernel_rfl) (by kernel_rfl) chn_ok).cons Try.func18 (by kernel_rfl) (by kernel_rfl) rst_ok).cons Try.func22 (by kernel_rfl) (by kernel_rfl) wtn_ok)
@[irreducible] def naL (lo hi : Nat → Int) (n m : Nat) (p : Nat → Int) (k : Nat) : Int := nrL (lo k) (hi k) (pkV m p k) (pkV (rsN m (n : Int)) (rsP m (n : Int) p) k)
@[irreducible] def naH (lo hi : Nat → Int) (n m : Nat) (p : Nat → Int) (k : Nat) : Int := nrH (lo k) (hi k) (pkV m p k) (pkV (rsN m (n : Int)) (rsP m (n : Int) p) k)
theorem na_in {lo hi : Nat → Int} {n m : Nat} {p : Nat → Int} {k : Nat} (h : lo k ≤ hi k) : lo k ≤ naL lo hi n m p k ∧ naL lo hi n m p k ≤ naH lo hi n m p k ∧ naH lo hi n m p k ≤ hi k := by
  unfold naL naH; exact nr_in h _ _
def narS : Spec [spansSh, pkSh] := ⟨fun (x, y, _) => x.1 ≤ 4096 ∧ (∀ k, k < x.1 → spanOK (x.2 k).1 (x.2 k).2.1 = true) ∧ pksOK y.1 (fun k => (y.2 k).1), fun ((n, el), (m, em), _) => .slc (.sym n) 2
  (fun k => [.si .i64 (naL (fun k => (el k).1) (fun k => (el k).2.1) n m (fun j => (em j).1) k), .si .i64 (naH (fun k => (el k).1) (fun k => (el k).2.1) n m (fun j => (em j).1) k)])⟩
def narI : DatL [spansSh, pkSh] → Anns := fun ((n, el), (m, em), _) => [
  (4, [(7, 42, 2)], fun fr hp => ⟨Nat, fun g => ⟨frI [.k 8, .s (.si .i64 (icast g)), .k 9, .t 29] fr, putRL hp (.sym g)
    (fun k => [.si .i64 (naL (fun k => (el k).1) (fun k => (el k).2.1) n m (fun j => (em j).1) k), .si .i64 (naH (fun k => (el k).1) (fun k => (el k).2.1) n m (fun j => (em j).1) k)])⟩, Nat × Nat, fun g => (g, n), fun (g, n) => g ≤ n, fun g => nsub n g⟩)]
set_option maxRecDepth 100000 in
theorem nar_ok : FnSpec Try.prog 17 _ narS := by
  refine FnSpec.of SUc_ok mixed (U := 0) (I := narI) Try.func17 rfl (by kernel_rfl) rfl rfl (by decide +kernel) ?_
  rintro ⟨⟨n, el⟩, ⟨m, em⟩, ⟨⟩⟩ hpre
  obtain ⟨lo, hi, rfl⟩ : ∃ lo hi : Nat → Int, el = fun k => (lo k, hi k, ()) := ⟨fun k => (el k).1, fun k => (el k).2.1, rfl⟩
  obtain ⟨p, rfl⟩ : ∃ p : Nat → Int, em = fun k => (p k, ()) := ⟨fun k => (em k).1, rfl⟩
  have hpre : n ≤ 4096 ∧ (∀ k, k < n → spanOK (lo k) (hi k) = true) ∧ pksOK m p := hpre
  obtain ⟨hn, hs, hp⟩ := hpre
  unfold FnSat
  conv => arg 2; reduce
  simp [narS, chnS, rstS, maxRow, ElEq, aliveB, goneB, getB, and_assoc]
  refine ⟨hn, hs, hp, hp.1, hn, hs, rs_ok hp (by omega), ⟨0, rfl, rfl, fun j => by omega, by omega⟩, fun g hg => ⟨fun hlt => ⟨hlt, by omega, by omega, by omega, g + 1, by omega, rfl, fun j hj => app_one hj (fun _ => rfl) (fun h => ?_), by omega, by omega⟩, fun hge => by omega⟩⟩
  subst h
  have e1 : naL lo hi n m p j = min (chV (lo j) (hi j) (pkV m p j)) (chV (lo j) (hi j) (pkV (rsN m (n : Int)) (rsP m (n : Int) p) j)) := by unfold naL nrL; rfl
  have e2 : naH lo hi n m p j = max (chV (lo j) (hi j) (pkV m p j)) (chV (lo j) (hi j) (pkV (rsN m (n : Int)) (rsP m (n : Int) p) j)) := by unfold naH nrH; rfl
  show nrmL [.si .i64 (min (chV (lo j) (hi j) (pkV m p j)) (chV (lo j) (hi j) (pkV (rsN m (n : Int)) (rsP m (n : Int) p) j))), .si .i64 (max (chV (lo j) (hi j) (pkV m p j)) (chV (lo j) (hi j) (pkV (rsN m (n : Int)) (rsP m (n : Int) p) j)))] = [.si .i64 (naL lo hi n m p j), .si .i64 (naH lo hi n m p j)]
  rw [e1, e2]
  rfl
-- what StepBox takes
@[reducible] def wideCells : List Sh := [spansSh, spansSh, spansSh, .int .i64, .int .i64, .int .i64, .int .i64, .int .i64, .int .i64, .int .i64, .int .i64, .int .i64]
@[reducible] def wideSh : Sh := .agg wideCells
@[irreducible] def fewB (n m p : Nat) : Bool := decide (n ≤ 20) && decide (m ≤ 20) && decide (p ≤ 20)
theorem fewB_iff {n m p : Nat} : fewB n m p = true ↔ n ≤ 20 ∧ m ≤ 20 ∧ p ≤ 20 := by unfold fewB; simp [and_assoc]
def fewS : Spec [wideSh] := ⟨fun _ => True, fun ((x, y, z, _), _) => .sb (fewB x.1 y.1 z.1)⟩
set_option maxRecDepth 100000 in
theorem few_ok : FnSpec Try.prog 43 _ fewS := by
  refine FnSpec.of SUc_ok mixed (U := 0) (I := fun _ => []) Try.func43 rfl (by kernel_rfl) rfl rfl (by decide +kernel) ?_
  rintro ⟨⟨⟨n, el⟩, ⟨m, em⟩, ⟨p, en⟩, (a1 : Int), (a2 : Int), (a3 : Int), (a4 : Int), (a5 : Int), (a6 : Int), (a7 : Int), (a8 : Int), (a9 : Int), ⟨⟩⟩, ⟨⟩⟩ -
  unfold FnSat
  conv => arg 2; reduce
  simp [fewS]
  rw [Bool.eq_iff_iff, fewB_iff]
  simp
  omega
noncomputable def SUd : Sums := ⟨(43, mkSum _ fewS) :: (17, mkSum _ narS) :: SUc.one, SUc.two, SUc.lo, SUc.eqs, SUc.its, SUc.imm⟩
theorem SUd_ok : SumsOK Try.prog SUd := ((SUc_ok.cons Try.func17 (by kernel_rfl) (by kernel_rfl) nar_ok).cons Try.func43 (by kernel_rfl) (by kernel_rfl) few_ok)
@[irreducible] def useB (c : Cel) (n : Nat) (lo hi : Nat → Int) (m : Nat) (bl bh : Nat → Int) (p : Nat) (il ih : Nat → Int) : Bool := !(grtB c) && fewB n m p && decide (posV c n lo hi = 0) && boxB m bl bh && inpB p il ih
theorem useB_iff {c : Cel} {n : Nat} {lo hi : Nat → Int} {m : Nat} {bl bh : Nat → Int} {p : Nat} {il ih : Nat → Int} : useB c n lo hi m bl bh p il ih = true ↔ grtB c = false ∧ fewB n m p = true ∧ ChkOK c n lo hi m bl bh ∧ inpB p il ih = true := by
  rw [← chk_iff, chkV_zero]
  unfold useB; simp [and_assoc]
def useS : Spec [celSh, wideSh] := ⟨fun _ => True, fun (c, ((n, el), (m, em), (p, en), _), _) => .sb (useB (celOf c) n (fun k => (el k).1) (fun k => (el k).2.1) m (fun k => (em k).1) (fun k => (em k).2.1) p (fun k => (en k).1) (fun k => (en k).2.1))⟩
set_option maxRecDepth 100000 in
set_option maxHeartbeats 4000000 in
theorem use_ok : FnSpec Try.prog 16 _ useS := by
  refine FnSpec.of SUd_ok mixed (U := 0) (I := fun _ => []) Try.func16 rfl (by kernel_rfl) rfl rfl (by decide +kernel) ?_
  rintro ⟨c, ⟨⟨n, el⟩, ⟨m, em⟩, ⟨p, en⟩, (a1 : Int), (a2 : Int), (a3 : Int), (a4 : Int), (a5 : Int), (a6 : Int), (a7 : Int), (a8 : Int), (a9 : Int), ⟨⟩⟩, ⟨⟩⟩ -
  obtain ⟨c, rfl⟩ := cel_ex c
  obtain ⟨lo, hi, rfl⟩ : ∃ lo hi : Nat → Int, el = fun k => (lo k, hi k, ()) := ⟨fun k => (el k).1, fun k => (el k).2.1, rfl⟩
  obtain ⟨bl, bh, rfl⟩ : ∃ bl bh : Nat → Int, em = fun k => (bl k, bh k, ()) := ⟨fun k => (em k).1, fun k => (em k).2.1, rfl⟩
  obtain ⟨il, ih, rfl⟩ : ∃ il ih : Nat → Int, en = fun k => (il k, ih k, ()) := ⟨fun k => (en k).1, fun k => (en k).2.1, rfl⟩
  unfold FnSat
  conv => arg 2; reduce
  simp [-Bool.forall_bool, useS, grtS, fewS, posS, sbxS, and_assoc]
  refine ⟨fun hg hf => ⟨grtB_no hg, ?_⟩, fun _ _ _ _ h => by omega, fun _ _ _ _ h _ => by omega, fun _ _ _ _ h _ _ => by omega, fun _ _ _ _ h _ _ _ => by omega, fun _ _ _ _ h _ _ _ _ => by omega, fun _ _ _ _ h _ _ _ _ _ => by omega, ?_⟩
  · have := fewB_iff.1 hf
    unfold maxLen; omega
  · have e1 : (errA (boxB m (fun k => bl k) fun k => bh k) == 0) = boxB m bl bh := by
      rw [show (boxB m (fun k => bl k) fun k => bh k) = boxB m bl bh from rfl]
      cases boxB m bl bh <;> simp [errA]
    have e2 : inpB p (fun k => il k) (fun k => ih k) = ((p : Int) == 2 && decide (-1048576 ≤ il 0) && decide (ih 0 ≤ 1048576) && decide (il 0 ≤ ih 0) && decide (0 ≤ il 1) && decide (ih 1 ≤ 400000) && decide (il 1 ≤ ih 1)) := by
      rw [Bool.eq_iff_iff, inpB_iff, insV_iff, insV_iff]
      simp
      omega
    rw [e1]
    unfold useB
    rw [e2]
    simp only [Bool.and_assoc]
    rfl
noncomputable def SUe : Sums := ⟨(16, mkSum _ useS) :: SUd.one, SUd.two, SUd.lo, SUd.eqs, SUd.its, SUd.imm⟩
theorem SUe_ok : SumsOK Try.prog SUe := (SUd_ok.cons Try.func16 (by kernel_rfl) (by kernel_rfl) use_ok)
end
end Abs
end Go.Proofs.Ytbfdmfplhphilaa

/- Cells with offsets and with faults: what is answered is new; equal cells; numbers spoilt. -/
namespace Go.Proofs.Ytbfdmfplhphilaa
namespace Abs
open Go Go.RowKit
noncomputable section
attribute [local irreducible] FnSat
noncomputable def SAr : Sums := ⟨(31, mkSumN _ kepN) :: SAc.one, SAc.two, SAc.lo, SAc.eqs, SAc.its, SAc.imm⟩
theorem SAr_ok : SumsOK Try.prog SAr := (SAc_ok.add Try.func31 (by kernel_rfl) (by kernel_rfl) (mkSumN_ok kepN_ok))
theorem flE_iff {c : Cel} {k a : Int} (h : flE c k a = 0) : celB c = true ∧ fltB k a = true ∧ celB (fltC c k a) = true := by
  unfold flE at h
  split at h
  · rename_i q
    rw [Bool.and_eq_true] at q
    split at h
    · rename_i q2
      exact ⟨q.1, q.2, q2⟩
    · cases h
  · cases h
theorem fau_case {c : Cel} {k a : Int} {X : Cel} (hX : X = fltC c k a) (hm : CelMax c) (hb : celB (fltC c k a) = true) :
    CelMax X ∧ celB X = true ∧ (celB X = true → CelFew X ∧ X.cap = (fltC c k a).cap ∧ X.shift = (fltC c k a).shift ∧ X.extra = (fltC c k a).extra ∧ X.pair = (fltC c k a).pair ∧ X.keep = (fltC c k a).keep ∧ X.leak = (fltC c k a).leak ∧ X.hcap = (fltC c k a).hcap ∧ X.cool = (fltC c k a).cool ∧ X.cyc = (fltC c k a).cyc ∧ X.agel = (fltC c k a).agel ∧ X.grow = (fltC c k a).grow ∧ X.ocv.nx = (fltC c k a).ocv.nx ∧ (∀ j : Nat, j < (fltC c k a).ocv.nx → X.ocv.x j = (fltC c k a).ocv.x j) ∧ X.ocv.ny = (fltC c k a).ocv.ny ∧ (∀ j : Nat, j < (fltC c k a).ocv.ny → X.ocv.y j = (fltC c k a).ocv.y j) ∧ X.cold.nx = (fltC c k a).cold.nx ∧ (∀ j : Nat, j < (fltC c k a).cold.nx → X.cold.x j = (fltC c k a).cold.x j) ∧ X.cold.ny = (fltC c k a).cold.ny ∧ (∀ j : Nat, j < (fltC c k a).cold.ny → X.cold.y j = (fltC c k a).cold.y j) ∧ X.stress.nx = (fltC c k a).stress.nx ∧ (∀ j : Nat, j < (fltC c k a).stress.nx → X.stress.x j = (fltC c k a).stress.x j) ∧ X.stress.ny = (fltC c k a).stress.ny ∧ (∀ j : Nat, j < (fltC c k a).stress.ny → X.stress.y j = (fltC c k a).stress.y j)) := by
  subst hX
  refine ⟨flt_max hm k a, hb, fun _ => ⟨(celB_iff.1 hb).few, ?_⟩⟩
  simp
def fauN : SpecN [celSh, .agg [.int .i64, .int .i64]] := ⟨fun (c, ((k : Int), (a : Int), _), _) => CelMax (celOf c) ∧ flE (celOf c) k a = 0, fun (c, ((k : Int), (a : Int), _), _) => .tup [celR (fltC (celOf c) k a) 5, .si .i64 0], fun (c, ((k : Int), (a : Int), _), _) => .dead :: .dead :: .dead :: .dead :: .dead :: celH (fltC (celOf c) k a)⟩
set_option maxRecDepth 100000 in
set_option maxHeartbeats 4000000 in
theorem fauN_ok : FnSpecN Try.prog 12 _ fauN := by
  refine FnSpecN.of SAr_ok mixed (U := 0) (I := fun _ => []) Try.func12 rfl (by kernel_rfl) rfl rfl (by decide +kernel) ?_
  rintro ⟨c, ⟨(k : Int), (a : Int), ⟨⟩⟩, ⟨⟩⟩ hpre
  obtain ⟨c, rfl⟩ := cel_ex c
  have hpre : CelMax c ∧ flE c k a = 0 := by have : CelMax (celOf (celD c)) ∧ flE (celOf (celD c)) k a = 0 := hpre; rwa [celOf_D] at this
  obtain ⟨hc, h0⟩ := hpre
  obtain ⟨hb, hf, hm⟩ := flE_iff h0
  unfold FnSat
  conv => arg 2; reduce
  simp [-Bool.forall_bool, -celOf_mk, fauN, ccheckS, betS, kepN, celR, celH, celOf_x, celX_id, ElEq, getB, goneB, aliveB, and_assoc]
  unfold fltB at hf
  simp at hf
  have hk := celB_iff.1 hb
  have := hk.lk0
  have := hk.lk1
  have := hk.ex0
  have := hk.ex1
  have := hk.cap0
  have := hk.cap1
  refine ⟨hc, fun p1 p2 p3 p4 p5 p6 => ⟨p1, p2, p3, p4, p5, p6⟩, hb, by omega, by omega, by omega, by omega, fun h => by omega, fun p1 p2 p3 p4 p5 p6 => ?_⟩
  refine ⟨fun e => ?_, fun n1 => ⟨fun e => ?_, fun n2 => ⟨fun e => ?_, fun n3 => ⟨fun e => ?_, fun n4 => ?_⟩⟩⟩⟩
  · exact ⟨by omega, by omega, fau_case (by rw [celX_flt]; simp [e]) hc hm⟩
  · exact ⟨by omega, by omega, fau_case (by rw [celX_flt]; simp [e]) hc hm⟩
  · exact ⟨by omega, by omega, fau_case (by rw [celX_flt]; simp [e]) hc hm⟩
  · exact fau_case (by rw [celX_flt]; simp [e]) hc hm
  · exact fau_case (by rw [celX_flt, if_neg n3, if_neg n2, if_neg n1, if_neg n4, celX_id]) hc hm
def raplI : DatL [celSh, intsSh] → Anns := fun (_, (_, el), _) => [
  (4, [], fun fr hp => ⟨Nat, fun g => ⟨frI [.k 6, .s (.si .i64 (icast g)), .k 9, .t 20] fr, hp⟩, Nat × (Nat → Int), fun g => (g, fun k => (el k).1), fun (g, v) => g ≤ 7 ∧ ∀ k, k < g → isQ (v k) = true, fun g => nsub 7 g⟩)]
set_option maxRecDepth 100000 in
set_option maxHeartbeats 4000000 in
theorem rapl_ok : FnSpec Try.prog 8 _ aplS := by
  refine FnSpec.of SUd_ok mixed (U := 0) (I := raplI) Try.func8 rfl (by kernel_rfl) rfl rfl (by decide +kernel) ?_
  rintro ⟨c, ⟨n, el⟩, ⟨⟩⟩ hpre
  obtain ⟨c, rfl⟩ := cel_ex c
  obtain ⟨v, rfl⟩ : ∃ v : Nat → Int, el = fun k => (v k, ()) := ⟨fun k => (el k).1, rfl⟩
  have hpre : CelMax c ∧ n ≤ maxLen := by have : CelMax (celOf (celD c)) ∧ n ≤ maxLen := hpre; rwa [celOf_D] at this
  obtain ⟨hc, hn⟩ := hpre
  unfold FnSat
  conv => arg 2; reduce
  unfold maxLen at hn
  simp [aplS, ccheckS, isS, rplS, enc_cel, celOf_mv, ElEq, getB, goneB, aliveB, and_assoc]
  refine ⟨hc, fun h => apl_no (apE_no fun q1 q2 => ?_) (by decide), fun h1 h2 => ⟨⟨0, rfl, by omega, fun k hk => by omega⟩, fun g hg hq => ⟨fun hlt => ⟨by omega, fun hb => apl_no (apE_q (k := g) (by omega) hb) (by decide), fun hb => ⟨by omega, by omega, g + 1, by omega, by omega, fun k hk => ?_, by omega⟩⟩, fun hge => ?_⟩⟩⟩
  · rcases h with h | h
    · rw [q1] at h; cases h
    · omega
  · by_cases h' : k < g
    · exact hq k h'
    · obtain rfl : k = g := by omega
      exact hb
  · obtain rfl : n = 7 := by omega
    have hq7 : ∀ k, k < 7 → isQ (v k) = true := fun k hk => hq k (by omega)
    have ho : ofsB v := by
      unfold ofsB
      intro k hk
      exact isQ_iff.1 (hq7 k hk)
    refine ⟨h1, rfl, ho, mvM hc v, fun hb => apl_no (apE_r h1 hq7 hb) (by decide), fun hb => ?_⟩
    have E0 : apE c 7 (fun k => v k) = 0 := apE_0 h1 hq7 hb
    have E : apC c 7 (fun k => v k) = mvC c v := apC_0 E0
    rw [E, E0]
    refine ⟨h1, rfl, ho, ?_⟩
    unfold mvC Cel.cap Cel.ocv Cel.shift Cel.cold Cel.extra Cel.pair Cel.keep Cel.leak Cel.hcap Cel.cool Cel.stress Cel.cyc Cel.agel Cel.grow
    simp
theorem rfau_case {c : Cel} {k a a1 a2 a3 a4 a5 a6 a7 a8 a9 a10 a11 : Int} (hX : celX c a1 a2 a3 a4 a5 a6 a7 a8 a9 a10 a11 = fltC c k a) (hm : CelMax c) (h : celB c = true) (hf : fltB k a = true) :
    CelMax (celX c a1 a2 a3 a4 a5 a6 a7 a8 a9 a10 a11) ∧ (celB (celX c a1 a2 a3 a4 a5 a6 a7 a8 a9 a10 a11) = false → 0 = (flC c k a).cap ∧ (flC c k a).ocv.nx = 0 ∧ (flC c k a).ocv.ny = 0 ∧ 0 = (flC c k a).shift ∧ (flC c k a).cold.nx = 0 ∧ (flC c k a).cold.ny = 0 ∧ 0 = (flC c k a).extra ∧ 0 = (flC c k a).pair ∧ 0 = (flC c k a).keep ∧ 0 = (flC c k a).leak ∧ 0 = (flC c k a).hcap ∧ 0 = (flC c k a).cool ∧ (flC c k a).stress.nx = 0 ∧ (flC c k a).stress.ny = 0 ∧ 0 = (flC c k a).cyc ∧ 0 = (flC c k a).agel ∧ 0 = (flC c k a).grow ∧ 3 = flE c k a) ∧ (celB (celX c a1 a2 a3 a4 a5 a6 a7 a8 a9 a10 a11) = true → a1 = (flC c k a).cap ∧ c.ocv.nx = (flC c k a).ocv.nx ∧ (∀ j : Nat, j < (flC c k a).ocv.nx → c.ocv.x j = (flC c k a).ocv.x j) ∧ c.ocv.ny = (flC c k a).ocv.ny ∧ (∀ j : Nat, j < (flC c k a).ocv.ny → c.ocv.y j = (flC c k a).ocv.y j) ∧ a2 = (flC c k a).shift ∧ c.cold.nx = (flC c k a).cold.nx ∧ (∀ j : Nat, j < (flC c k a).cold.nx → c.cold.x j = (flC c k a).cold.x j) ∧ c.cold.ny = (flC c k a).cold.ny ∧ (∀ j : Nat, j < (flC c k a).cold.ny → c.cold.y j = (flC c k a).cold.y j) ∧ a3 = (flC c k a).extra ∧ a4 = (flC c k a).pair ∧ a5 = (flC c k a).keep ∧ a6 = (flC c k a).leak ∧ a7 = (flC c k a).hcap ∧ a8 = (flC c k a).cool ∧ c.stress.nx = (flC c k a).stress.nx ∧ (∀ j : Nat, j < (flC c k a).stress.nx → c.stress.x j = (flC c k a).stress.x j) ∧ c.stress.ny = (flC c k a).stress.ny ∧ (∀ j : Nat, j < (flC c k a).stress.ny → c.stress.y j = (flC c k a).stress.y j) ∧ a9 = (flC c k a).cyc ∧ a10 = (flC c k a).agel ∧ a11 = (flC c k a).grow ∧ 0 = flE c k a) := by
  have q := flt_case hX hm h hf
  refine ⟨q.1, q.2.1, fun hb => ?_⟩
  have q := (q.2.2 hb).2
  unfold celX Cel.cap Cel.ocv Cel.shift Cel.cold Cel.extra Cel.pair Cel.keep Cel.leak Cel.hcap Cel.cool Cel.stress Cel.cyc Cel.agel Cel.grow at q
  unfold Cel.cap Cel.ocv Cel.shift Cel.cold Cel.extra Cel.pair Cel.keep Cel.leak Cel.hcap Cel.cool Cel.stress Cel.cyc Cel.agel Cel.grow
  exact q
set_option maxRecDepth 100000 in
set_option maxHeartbeats 4000000 in
theorem rfau_ok : FnSpec Try.prog 13 _ fauS := by
  refine FnSpec.of SUd_ok mixed (U := 0) (I := fun _ => []) Try.func13 rfl (by kernel_rfl) rfl rfl (by decide +kernel) ?_
  rintro ⟨c, ⟨(k : Int), (a : Int), ⟨⟩⟩, ⟨⟩⟩ hpre
  obtain ⟨c, rfl⟩ := cel_ex c
  have hc : CelMax c := by have : CelMax (celOf (celD c)) := hpre; rwa [celOf_D] at this
  unfold FnSat
  conv => arg 2; reduce
  simp [-Bool.forall_bool, -celOf_mk, fauS, ccheckS, betS, enc_cel, celOf_x, celX_id, ElEq, getB, goneB, aliveB, and_assoc]
  refine ⟨hc, fun p1 p2 p3 p4 p5 p6 p7 => ⟨p1, p2, p3, p4, p5, p6, p7⟩, fun p1 p2 p3 p4 p5 p6 => ⟨p1, p2, p3, p4, p5, p6⟩, fun q => flC_n (flE_2 ?_) (by decide), ?_⟩
  · cases hb : celB c with
    | false => rfl
    | true =>
      rw [Bool.true_and]
      unfold fltB
      rw [hb] at q
      simp at q
      cases hx : (decide (0 ≤ k) && decide (k ≤ 4) && decide (0 ≤ a) && decide (a ≤ 1048576) && (decide (a = 0) || !(decide (k = 0) || decide (k = 4)))) with
      | false => rfl
      | true => simp at hx; omega
  · intro p1 p2 p3 p4 p5 p6
    have hf : fltB k a = true := by
      unfold fltB
      simp
      omega
    have hk := celB_iff.1 p1
    have := hk.lk0
    have := hk.lk1
    have := hk.ex0
    have := hk.ex1
    have := hk.cap0
    have := hk.cap1
    refine ⟨fun e => ?_, fun n1 => ⟨fun e => ?_, fun n2 => ⟨fun e => ?_, fun n3 => ⟨fun e => ?_, fun n4 => ?_⟩⟩⟩⟩
    · exact ⟨by omega, by omega, rfau_case (by rw [celX_flt]; simp [e]) hc p1 hf⟩
    · exact ⟨by omega, by omega, rfau_case (by rw [celX_flt]; simp [e]) hc p1 hf⟩
    · exact ⟨by omega, by omega, rfau_case (by rw [celX_flt]; simp [e]) hc p1 hf⟩
    · exact rfau_case (by rw [celX_flt]; simp [e]) hc p1 hf
    · have hx : celX c c.cap c.shift c.extra c.pair c.keep c.leak c.hcap c.cool c.cyc c.agel c.grow = fltC c k a := by rw [celX_flt, if_neg n3, if_neg n2, if_neg n1, if_neg n4]
      have q := rfau_case hx hc p1 hf
      rw [celX_id] at q
      exact q
def smaS : Spec [intsSh, intsSh] := ⟨fun (x, y, _) => x.1 ≤ maxLen ∧ x.1 = y.1 ∧ ∀ k, k < x.1 → (x.2 k).1 = (y.2 k).1, fun _ => .sb true⟩
def smaI : DatL [intsSh, intsSh] → Anns := fun ((n, _), _, _) =>
  [(4, [], fun fr hp => ⟨Nat, fun k => ⟨frI [.k 5, .s (.si .i64 (icast k)), .k 5, .t 15] fr, hp⟩, Nat × Nat, fun k => (k, n), fun (k, n) => k ≤ n, fun k => nsub n k⟩)]
set_option maxRecDepth 100000 in
theorem sma_ok : FnSpec Try.prog 58 _ smaS := by
  refine FnSpec.of SUd_ok mixed (U := 0) (I := smaI) Try.func58 rfl (by kernel_rfl) rfl rfl (by decide +kernel) ?_
  rintro ⟨⟨n, f⟩, ⟨m, g⟩, ⟨⟩⟩ hpre
  obtain ⟨a, rfl⟩ : ∃ a : Nat → Int, f = fun k => (a k, ()) := ⟨fun k => (f k).1, rfl⟩
  obtain ⟨b, rfl⟩ : ∃ b : Nat → Int, g = fun k => (b k, ()) := ⟨fun k => (g k).1, rfl⟩
  have hpre : n ≤ maxLen ∧ n = m ∧ ∀ k, k < n → a k = b k := hpre
  obtain ⟨hn, rfl, he⟩ := hpre
  unfold FnSat
  conv => arg 2; reduce
  unfold maxLen at hn
  simp [smaS, and_assoc]
  exact ⟨⟨0, rfl, by omega⟩, fun g hg hlt => ⟨hlt, he g hlt, fun _ => ⟨by omega, by omega, g + 1, by omega, by omega, by omega⟩⟩⟩
def smcS : Spec [crvSh, crvSh] := ⟨fun (x, y, _) => x.1.1 ≤ maxLen ∧ x.2.1.1 ≤ maxLen ∧ crvOf x = crvOf y, fun _ => .sb true⟩
noncomputable def SAra : Sums := ⟨(58, mkSum _ smaS) :: SUd.one, SUd.two, SUd.lo, SUd.eqs, SUd.its, SUd.imm⟩
theorem SAra_ok : SumsOK Try.prog SAra := (SUd_ok.cons Try.func58 (by kernel_rfl) (by kernel_rfl) sma_ok)
set_option maxRecDepth 100000 in
theorem smc_ok : FnSpec Try.prog 35 _ smcS := by
  refine FnSpec.of SAra_ok mixed (U := 0) (I := fun _ => []) Try.func35 rfl (by kernel_rfl) rfl rfl (by decide +kernel) ?_
  rintro ⟨x, y, ⟨⟩⟩ hpre
  obtain ⟨c, rfl⟩ := crv_ex x
  obtain ⟨d, rfl⟩ := crv_ex y
  have hpre : c.nx ≤ maxLen ∧ c.ny ≤ maxLen ∧ c = d := by have : c.nx ≤ maxLen ∧ c.ny ≤ maxLen ∧ crvOf (crvD c) = crvOf (crvD d) := hpre; rwa [crvOf_mk, crvOf_mk] at this
  obtain ⟨h1, h2, rfl⟩ := hpre
  unfold FnSat
  conv => arg 2; reduce
  simp [smcS, smaS, and_assoc]
  exact ⟨h1, h2⟩
def smlS : Spec [celSh, celSh] := ⟨fun (x, y, _) => CelMax (celOf x) ∧ celOf x = celOf y, fun _ => .sb true⟩
noncomputable def SArb : Sums := ⟨(35, mkSum _ smcS) :: SAra.one, SAra.two, SAra.lo, SAra.eqs, SAra.its, SAra.imm⟩
theorem SArb_ok : SumsOK Try.prog SArb := (SAra_ok.cons Try.func35 (by kernel_rfl) (by kernel_rfl) smc_ok)
set_option maxRecDepth 100000 in
theorem sml_ok : FnSpec Try.prog 9 _ smlS := by
  refine FnSpec.of SArb_ok mixed (U := 0) (I := fun _ => []) Try.func9 rfl (by kernel_rfl) rfl rfl (by decide +kernel) ?_
  rintro ⟨x, y, ⟨⟩⟩ hpre
  obtain ⟨c, rfl⟩ := cel_ex x
  obtain ⟨d, rfl⟩ := cel_ex y
  have hpre : CelMax c ∧ c = d := by have : CelMax (celOf (celD c)) ∧ celOf (celD c) = celOf (celD d) := hpre; rwa [celOf_D, celOf_D] at this
  obtain ⟨⟨h1, h2, h3, h4, h5, h6⟩, rfl⟩ := hpre
  unfold FnSat
  conv => arg 2; reduce
  simp [-Bool.forall_bool, smlS, smcS, and_assoc]
  exact ⟨h1, h2, h3, h4, h5, h6⟩
@[irreducible] def spV (g k : Nat) (x : Int) : Int := if k < g then -1 else x
def spoF : SpecF [.row 2 1 [.int .i64]] [.rowr 0] := ⟨fun ((n, _), _) _ => n ≤ maxLen, fun _ _ => .tup [], fun ((n, _), _) _ => [.row 2 1 (.sym n) (fun _ => [.si .i64 (-1)])]⟩
def spoI : DatH [.row 2 1 [.int .i64]] → DatL [.rowr 0] → Anns := fun ((n, el), _) _ => [
  (1, [], fun fr hp => ⟨Nat, fun g => ⟨frI [.k 2, .s (.si .i64 (icast g)), .t 9] fr, setB hp 0 (.row 2 1 (.sym n) (fun k => [.si .i64 (spV g k (el k).1)]))⟩, Nat × Nat, fun g => (g, n), fun (g, n) => g ≤ n, fun g => nsub n g⟩)]
set_option maxRecDepth 100000 in
theorem spo_ok : FnSpecF Try.prog 15 _ _ spoF := by
  refine FnSpecF.of SArb_ok mixed (U := 0) (I := spoI) Try.func15 rfl (by kernel_rfl) rfl (by decide +kernel) ?_
  rintro ⟨⟨n, el⟩, ⟨⟩⟩ ⟨⟨⟩, ⟨⟩⟩ hn
  obtain ⟨v, rfl⟩ : ∃ v : Nat → Int, el = fun k => (v k, ()) := ⟨fun k => (el k).1, rfl⟩
  have hn : n ≤ maxLen := hn
  unfold FnSat
  conv => arg 2; reduce
  unfold maxLen at hn
  simp [spoF, encH, encB, ElEq, aliveB, getB, goneB, and_assoc]
  refine ⟨⟨0, rfl, fun j hj => by unfold spV; rw [if_neg (by omega)], by omega⟩, fun g hg => ⟨fun hlt => ⟨hlt, by omega, by omega, g + 1, by omega, fun j hj => ?_, by omega, by omega⟩, fun hge j hj => by unfold spV; rw [if_pos (by omega)]⟩⟩
  unfold spV
  by_cases h : j = g
  · rw [if_pos h, if_pos (by omega)]
  · rw [if_neg h]
    by_cases h' : j < g
    · rw [if_pos h', if_pos (by omega)]
    · rw [if_neg h', if_neg (by omega)]
def spoZ : SpecF [] [intsSh] := ⟨fun _ (x, _) => x.1 = 0, fun _ _ => .tup [], fun _ _ => []⟩
def spzI : DatH [] → DatL [intsSh] → Anns := fun _ ((n, _), _) => [
  (1, [], fun fr hp => ⟨Nat, fun g => ⟨frI [.k 2, .s (.si .i64 (icast g)), .t 9] fr, hp⟩, Nat × Nat, fun g => (g, n), fun (g, n) => g ≤ n, fun g => nsub n g⟩)]
set_option maxRecDepth 100000 in
theorem spz_ok : FnSpecF Try.prog 15 _ _ spoZ := by
  refine FnSpecF.of SArb_ok mixed (U := 0) (I := spzI) Try.func15 rfl (by kernel_rfl) rfl (by decide +kernel) ?_
  rintro ⟨⟩ ⟨⟨n, el⟩, ⟨⟩⟩ hn
  obtain rfl : n = 0 := hn
  unfold FnSat
  conv => arg 2; reduce
  simp [spoZ, encH, encB, ElEq, aliveB, getB, goneB, and_assoc]
def alt2 (s t : Summ2) : Summ2 := fun args hp => match s args hp with | some r => some r | none => t args hp
theorem alt2_ok {P : Program} {f : FuncId} {s t : Summ2} (hs : Summ2OK P f s) (ht : Summ2OK P f t) : Summ2OK P f (alt2 s t) := by
  intro args hp pre res hp' h hpre
  unfold alt2 at h
  split at h
  · rename_i r hr
    injection h with h; subst h
    exact hs _ _ _ _ _ hr hpre
  · exact ht _ _ _ _ _ h hpre
noncomputable def SArc : Sums := ⟨(13, mkSum _ fauS) :: (8, mkSum _ aplS) :: (9, mkSum _ smlS) :: SArb.one, SArb.two, SArb.lo, SArb.eqs, SArb.its, SArb.imm⟩
theorem SArc_ok : SumsOK Try.prog SArc := (((SArb_ok.cons Try.func9 (by kernel_rfl) (by kernel_rfl) sml_ok).cons Try.func8 (by kernel_rfl) (by kernel_rfl) rapl_ok).cons Try.func13 (by kernel_rfl) (by kernel_rfl) rfau_ok)
noncomputable def SArd : Sums := ⟨SArc.one, (15, alt2 (mkSumF _ _ spoF) (mkSumF _ _ spoZ)) :: SArc.two, SArc.lo, SArc.eqs, SArc.its, SArc.imm⟩
theorem SArd_ok : SumsOK Try.prog SArd := SumsOK.addTwo SArc_ok Try.func15 (by kernel_rfl) (by kernel_rfl) (alt2_ok (mkSumF_ok spo_ok) (mkSumF_ok spz_ok))
end
end Abs
end Go.Proofs.Ytbfdmfplhphilaa

/- What the program's generators draw, below a number too, is what the document says; a copy goes on by itself; no condition. -/
import Derived.Test.YtghmkkdmpmmbhaaQG070e85ee
import Derived.Test.YtghmkkdmpmmbhaaRows
set_option linter.unusedSimpArgs false
set_option linter.unusedVariables false
namespace Go.Proofs.Ytghmkkdmpmmbhaa
namespace Abs
open Go Go.RowKit
noncomputable section
attribute [local irreducible] FnSat
def copyN : SpecN [.ptr [.int .u64]] := ⟨fun (((s : Int), _), _) => s ≠ 0, fun _ => .own 0 0, fun (((s : Int), _), _) => [.cells 53 [.si .u64 s]]⟩
set_option maxRecDepth 100000 in
theorem copy_ok : FnSpecN Try.prog 30 _ copyN := by
  refine FnSpecN.of SDc_ok mixed (U := 0) (I := fun _ => []) Try.func30 rfl (by kernel_rfl) rfl rfl (by decide +kernel) ?_
  rintro ⟨⟨(s : Int), ⟨⟩⟩, ⟨⟩⟩ (hs : s ≠ 0)
  unfold FnSat
  conv => arg 2; reduce
  have hn : nzB s = true := nzB_iff.2 hs
  simp [copyN, valD, hn, aliveB, getB, VC.sat]
def SDd : Sums := ⟨(30, mkSumN _ copyN) :: SDc.one, SDc.two, SDc.lo, SDc.eqs, SDc.its⟩
theorem SDd_ok : SumsOK Try.prog SDd := (SDc_ok.add Try.func30 (by kernel_rfl) (by kernel_rfl) (mkSumN_ok copy_ok))
@[irreducible] def belS (s n : Int) : Int := if n < 1 then s else stV s
@[irreducible] def belV (s n : Int) : Int := if n < 1 then 0 else (outV s / 4294967296).tmod n
@[irreducible] def belE (n : Int) : Int := if n < 1 then 2 else 0
def belF : SpecF [.cells 53 [.int .u64]] [.own 0 0, .int .i64] :=
  ⟨fun ((s, _), _) (_, n, _) => U64 s ∧ s ≠ 0 ∧ n ≤ 9223372036854775807, fun ((s, _), _) (_, n, _) => .tup [.si .i64 (belV s n), .si .i64 (belE n)], fun ((s, _), _) (_, n, _) => [.cells 53 [.si .u64 (belS s n)]]⟩
theorem u64_wrap {n : Int} (h0 : 0 ≤ n) (h1 : n ≤ 9223372036854775807) : IntKind.u64.wrap n = n := by rw [IntKind.wrap_u64]; omega
theorem outV_u {s : Int} : 0 ≤ outV s ∧ outV s < 18446744073709551616 := by rw [outV_def]; omega
theorem ishr_32 (a : Int) : ishr a 32 = a / 4294967296 := by unfold ishr; exact Int.fdiv_eq_ediv_of_nonneg _ (by decide)
theorem bel_in {s n : Int} (hn : 1 ≤ n) : 0 ≤ (outV s / 4294967296).tmod n ∧ (outV s / 4294967296).tmod n ≤ 4294967296 := by
  have h := @outV_u s
  rw [Int.tmod_eq_emod_of_nonneg (by omega)]
  have h1 := Int.emod_nonneg (outV s / 4294967296) (show n ≠ 0 by omega)
  have h2 : outV s / 4294967296 % n ≤ outV s / 4294967296 := by
    have := Int.emod_add_mul_ediv (outV s / 4294967296) n
    have := Int.mul_nonneg (show 0 ≤ n by omega) (Int.ediv_nonneg (show 0 ≤ outV s / 4294967296 by omega) (show 0 ≤ n by omega))
    omega
  omega
set_option maxRecDepth 100000 in
theorem bel_ok : FnSpecF Try.prog 29 _ _ belF := by
  refine FnSpecF.of SDd_ok mixed (U := 0) (I := fun _ _ => []) Try.func29 rfl (by kernel_rfl) rfl (by decide +kernel) ?_
  rintro ⟨⟨(s : Int), ⟨⟩⟩, ⟨⟩⟩ ⟨⟨⟩, (n : Int), ⟨⟩⟩ ⟨(hs : U64 s), (h0 : s ≠ 0), (hn : n ≤ 9223372036854775807)⟩
  unfold FnSat
  conv => arg 2; reduce
  have hz : nzB s = true := nzB_iff.2 h0
  simp only [belF, valD, nextF]
  simp [aliveB, getB, encH, encB, and_assoc, hz]
  have e1 : ∀ x, belV s x = if x < 1 then 0 else (outV s / 4294967296).tmod x := fun x => by unfold belV; rfl
  have e2 : ∀ x, belS s x = if x < 1 then s else stV s := fun x => by unfold belS; rfl
  have e3 : ∀ x, belE x = if x < 1 then 2 else 0 := fun x => by unfold belE; rfl
  rw [e1, e2, e3]
  refine ⟨fun h => by rw [if_pos h, if_pos h, if_pos h]; exact ⟨rfl, rfl, rfl⟩, fun h => ?_⟩
  have hb := @bel_in s n h
  rw [if_neg (by omega), if_neg (by omega), if_neg (by omega), ishr_32, u64_wrap (by omega) hn]
  exact ⟨hs, by decide, by omega, by omega, by omega, rfl, rfl, rfl⟩
def rbelF : SpecF [.cells 119 [.int .u64]] [.own 0 0, .int .i64] :=
  ⟨fun ((s, _), _) (_, n, _) => U64 s ∧ s ≠ 0 ∧ n ≤ 9223372036854775807, fun ((s, _), _) (_, n, _) => .tup [.si .i64 (belV s n), .si .i64 (belE n)], fun ((s, _), _) (_, n, _) => [.cells 119 [.si .u64 (belS s n)]]⟩
set_option maxRecDepth 100000 in
theorem rbel_ok : FnSpecF Try.prog 32 _ _ rbelF := by
  refine FnSpecF.of SDd_ok mixed (U := 0) (I := fun _ _ => []) Try.func32 rfl (by kernel_rfl) rfl (by decide +kernel) ?_
  rintro ⟨⟨(s : Int), ⟨⟩⟩, ⟨⟩⟩ ⟨⟨⟩, (n : Int), ⟨⟩⟩ ⟨(hs : U64 s), (h0 : s ≠ 0), (hn : n ≤ 9223372036854775807)⟩
  unfold FnSat
  conv => arg 2; reduce
  simp only [rbelF, rnextF]
  simp [aliveB, getB, encH, encB, and_assoc]
  have e1 : ∀ x, belV s x = if x < 1 then 0 else (outV s / 4294967296).tmod x := fun x => by unfold belV; rfl
  have e2 : ∀ x, belS s x = if x < 1 then s else stV s := fun x => by unfold belS; rfl
  have e3 : ∀ x, belE x = if x < 1 then 2 else 0 := fun x => by unfold belE; rfl
  rw [e1, e2, e3]
  refine ⟨fun h => by rw [if_pos h, if_pos h, if_pos h]; exact ⟨rfl, rfl, rfl⟩, fun h => ?_⟩
  have hb := @bel_in s n h
  have ho := @outV_u s
  have e4 : IntKind.u64.wrap ((outV s).tdiv 4294967296) = outV s / 4294967296 := by
    rw [Int.tdiv_eq_ediv_of_nonneg ho.1, IntKind.wrap_u64]
    omega
  rw [if_neg (by omega), if_neg (by omega), if_neg (by omega), e4, u64_wrap (by omega) hn]
  exact ⟨hs, by omega, by omega, by omega, rfl, rfl, rfl⟩
def SDe : Sums := ⟨SDd.one, (32, mkSumF _ _ rbelF) :: (29, mkSumF _ _ belF) :: SDd.two, SDd.lo, SDd.eqs, SDd.its⟩
theorem SDe_ok : SumsOK Try.prog SDe := SumsOK.addTwo (SumsOK.addTwo SDd_ok Try.func29 (by kernel_rfl) (by kernel_rfl) (mkSumF_ok bel_ok)) Try.func32 (by kernel_rfl) (by kernel_rfl) (mkSumF_ok rbel_ok)
@[reducible] def intsSh3 : Sh := .slice 1 [.int .i64]
@[irreducible] def DrInv (n g : Nat) (s : Int) : Prop := g ≤ n ∧ U64 s ∧ s ≠ 0
def drawsI : DatL [.int .u64, intsSh3] → Anns := fun (_, (n, _), _) => [
  (6, [], fun fr hp => ⟨Nat × Int, fun (g, s) => ⟨frI [.k 7, .s (.si .i64 (icast g)), .t 5, .t 8, .t 46, .k 1] fr, setB (setB hp 0 (.cells 53 [.si .u64 s])) 1 (.cells 119 [.si .u64 s])⟩, Nat × Nat × Int, fun (g, s) => (n, g, s), fun (n, g, s) => DrInv n g s, fun (g, _) => nsub n g⟩)]
set_option maxRecDepth 100000 in
set_option maxHeartbeats 2000000 in
theorem cellDraws_law : LawFn Try.prog 8 [.int .u64, intsSh3] := by
  refine FnSpec.of SDe_ok mixed (U := 0) (I := drawsI) Try.func8 rfl (by kernel_rfl) rfl rfl (by decide +kernel) ?_
  rintro ⟨(a : Int), ⟨n, el⟩, ⟨⟩⟩ hv
  obtain ⟨v, rfl⟩ : ∃ v : Nat → Int, el = fun k => (v k, ()) := ⟨fun k => (el k).1, rfl⟩
  unfold FnSat
  conv => arg 2; reduce
  simp [-Bool.forall_bool, trueS, belF, rbelF, nextF, rnextF, newN, rnewN, copyN, and_assoc]
  have hv2 : ∀ k, k < n → v k ≤ 9223372036854775807 := fun k hk => by
    have h1 : InR .i64 (v k) := (hv.2.1.2 k hk).1
    have h2 := h1.2
    simpa [IntKind.max, IntKind.signed, IntKind.bits] using h2
  have inv : ∀ g s, DrInv n g s ↔ g ≤ n ∧ U64 s ∧ s ≠ 0 := fun g s => by unfold DrInv; exact Iff.rfl
  intro _
  refine ⟨⟨0, rfl, (inv _ _).2 ⟨by omega, sdV_u a, sdV_ne a⟩⟩, fun g s hi hlt => ?_⟩
  obtain ⟨h1, h2, h3⟩ := (inv _ _).1 hi
  have hb : U64 (belS s (v g)) ∧ belS s (v g) ≠ 0 := by
    unfold belS
    split
    · exact ⟨h2, h3⟩
    · exact ⟨stV_u h2, stV_ne h2 h3⟩
  exact ⟨h3, hlt, h2, h3, hv2 g hlt, hlt, h2, h3, hv2 g hlt, h2, hb.1, by omega, by omega, g + 1, rfl, (inv _ _).2 ⟨by omega, stV_u hb.1, stV_ne hb.1 hb.2⟩, by omega⟩
end
end Abs
open Go.ChangeShapes Go.WideShapes Go.ChangeAt Go.RowKit
set_option maxRecDepth 100000 in
theorem cellDraws_lifted (os : Os) (started : os.Started) (H : Type) (enc : TypeId × Value → H) :
    ReturnsInHanded {} Try.checked os 8 .any (Rows.cellDrawsSpec.pre6 enc Try.prog Try.f8 Rows.cellDrawsRow.domain false) (Rows.cellDrawsSpec.post enc Try.prog Try.f8 false true false false) := by
  refine returnsInHanded_of_change (C := Try.checked) (show ownKnob Try.prog.godebug = none by kernel_rfl) started (by kernel_rfl) Try.func8
    (ChangeSpec.witness6 (enc := enc) (C := Try.checked) false ⟨#[], #[.int .u64 0, .slice none 0 0], []⟩ 8 (by kernel_rfl) (by kernel_rfl) (by kernel_rfl) (by kernel_rfl)) ?_
  intro W base args ds gs before hval0 hW hcnd _
  have hW0 := hW
  obtain ⟨p, q, hA, hV, rfl, hfz, hnd⟩ := hW0
  refine (Abs.law_calls (enc' := enc) Abs.cellDraws_law (fn := Try.f8) (d := 3) (by kernel_rfl) hA hval0).mono fun e W' hh => ?_
  obtain ⟨he, hb⟩ := hh
  subst he
  exact ⟨_, rfl, Abs.law_post (s := Rows.cellDrawsSpec) (f := Try.f8) (by kernel_rfl) rfl (by kernel_rfl) (by kernel_rfl) rfl 2 (by kernel_rfl) (fun ds hl => by
    rcases ds with _ | ⟨d0, _ | ⟨d1, _ | ⟨d2, _⟩⟩⟩
    all_goals first | exact ⟨rfl, rfl, rfl⟩ | (exfalso; simp only [List.length_cons, List.length_nil] at hl; omega)) hW hb⟩
theorem cellDraws_holds : Rows.CellDrawsSaid :=
  OpenClaim.holds_of_wide 8 Try.f8 rfl rfl rfl rfl rfl rfl rfl ⟨rfl, rfl, rfl, rfl, rfl⟩ rfl rfl rfl rfl rfl (by kernel_rfl) Try.func8 (by kernel_rfl)
    (of_decide_eq_true (by kernel_rfl)) (by unfold Func.isWrapper; first | (rw [if_pos (by decide +kernel)]; kernel_rfl) | (rw [if_neg (by decide +kernel)]; exact ⟨rfl, rfl⟩))
    (fun os started H enc _ => cellDraws_lifted os started H enc)
end Go.Proofs.Ytghmkkdmpmmbhaa

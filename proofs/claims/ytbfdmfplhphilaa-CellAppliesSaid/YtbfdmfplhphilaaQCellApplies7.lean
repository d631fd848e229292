/- Cells with offsets and with faults, and which tolerances are possible, are those of the definitions, or refused, and results are new; no condition. -/
import Derived.Test.YtbfdmfplhphilaaQG82606897
import Derived.Test.YtbfdmfplhphilaaRows
set_option linter.unusedSimpArgs false
set_option linter.unusedVariables false
namespace Go.Proofs.Ytbfdmfplhphilaa
namespace Abs
open Go Go.RowKit
noncomputable section
attribute [local irreducible] FnSat
@[reducible] def flaSh : Sh := .agg [.int .i64, .int .i64]
@[reducible] def apwSh : List Sh := [celSh, intsSh, spansSh, flaSh]
noncomputable def SLa : Sums := ⟨(12, mkSumN _ fauN) :: (7, mkSumN _ aplN) :: SArd.one, SArd.two, SArd.lo, SArd.eqs, SArd.its, SArd.imm⟩
theorem SLa_ok : SumsOK Try.prog SLa := ((SArd_ok.add Try.func7 (by kernel_rfl) (by kernel_rfl) (mkSumN_ok aplN_ok)).add Try.func12 (by kernel_rfl) (by kernel_rfl) (mkSumN_ok fauN_ok))
noncomputable def SLb : Sums := ⟨(12, mkSum _ fauS) :: (7, mkSumN _ aplN) :: SArd.one, SArd.two, SArd.lo, SArd.eqs, SArd.its, SArd.imm⟩
theorem SLb_ok : SumsOK Try.prog SLb := ((SArd_ok.add Try.func7 (by kernel_rfl) (by kernel_rfl) (mkSumN_ok aplN_ok)).cons Try.func12 (by kernel_rfl) (by kernel_rfl) fau_ok)
noncomputable def SLc : Sums := ⟨(12, mkSumN _ fauN) :: (7, mkSum _ aplS) :: SArd.one, SArd.two, SArd.lo, SArd.eqs, SArd.its, SArd.imm⟩
theorem SLc_ok : SumsOK Try.prog SLc := ((SArd_ok.cons Try.func7 (by kernel_rfl) (by kernel_rfl) apl_ok).add Try.func12 (by kernel_rfl) (by kernel_rfl) (mkSumN_ok fauN_ok))
noncomputable def SLd : Sums := ⟨(12, mkSum _ fauS) :: (7, mkSum _ aplS) :: SArd.one, SArd.two, SArd.lo, SArd.eqs, SArd.its, SArd.imm⟩
theorem SLd_ok : SumsOK Try.prog SLd := ((SArd_ok.cons Try.func7 (by kernel_rfl) (by kernel_rfl) apl_ok).cons Try.func12 (by kernel_rfl) (by kernel_rfl) fau_ok)
def apP (x : DatL apwSh) : Prop := apE (celOf x.1) x.2.1.1 (fun k => (x.2.1.2 k).1) = 0
def flP (x : DatL apwSh) : Prop := flE (celOf x.1) x.2.2.2.1.1 x.2.2.2.1.2.1 = 0
def apw1 : Spec apwSh := ⟨fun x => ValidL apwSh x ∧ apP x ∧ flP x, fun _ => .sb true⟩
def apw2 : Spec apwSh := ⟨fun x => ValidL apwSh x ∧ apP x ∧ ¬flP x, fun _ => .sb true⟩
def apw3 : Spec apwSh := ⟨fun x => ValidL apwSh x ∧ ¬apP x ∧ flP x, fun _ => .sb true⟩
def apw4 : Spec apwSh := ⟨fun x => ValidL apwSh x ∧ ¬apP x ∧ ¬flP x, fun _ => .sb true⟩
theorem len_ap {n : Nat} (h : (n : Int) ≤ 20) : n ≤ maxLen := by unfold maxLen; omega
theorem flC_0 {c : Cel} {k a : Int} (h : flE c k a = 0) : flC c k a = fltC c k a := by unfold flC; rw [if_pos h]
theorem flC_no {c : Cel} {k a : Int} (h : ¬flE c k a = 0) : flC c k a = celNil := by unfold flC; rw [if_neg h]
theorem nil_max : CelMax celNil := by
  obtain ⟨n1, n2, n3, n4, n5, n6, n7, n8, n9, n10, n11, n12, n13, n14, n15, n16, n17⟩ := celNil_n
  unfold CelMax
  rw [n2, n3, n5, n6, n13, n14]
  unfold maxLen; omega
set_option maxRecDepth 100000 in
set_option maxHeartbeats 8000000 in
theorem ap1_ok : FnSpec Try.prog 3 _ apw1 := by
  refine FnSpec.of SLa_ok mixed (U := 0) (I := fun _ => []) Try.func3 rfl (by kernel_rfl) rfl rfl (by decide +kernel) ?_
  rintro ⟨c, ⟨n, el⟩, ⟨m, em⟩, ⟨(k : Int), (a : Int), ⟨⟩⟩, ⟨⟩⟩ hpre
  obtain ⟨c, rfl⟩ := cel_ex c
  obtain ⟨v, rfl⟩ : ∃ v : Nat → Int, el = fun k => (v k, ()) := ⟨fun k => (el k).1, rfl⟩
  obtain ⟨lo, hi, rfl⟩ : ∃ lo hi : Nat → Int, em = fun k => (lo k, hi k, ()) := ⟨fun k => (em k).1, fun k => (em k).2.1, rfl⟩
  have hpre : apE c n v = 0 ∧ flE c k a = 0 := by have : apE (celOf (celD c)) n v = 0 ∧ flE (celOf (celD c)) k a = 0 := hpre.2; rwa [celOf_D] at this
  obtain ⟨ha, hf⟩ := hpre
  unfold FnSat
  conv => arg 2; reduce
  simp [-Bool.forall_bool, apw1, trueS, grtS, aplN, aplS, fauN, fauS, celR, celH, celOf_mv, posS, ccheckS, smlS, spoF, spoZ, ElEq, getB, goneB, aliveB, and_assoc]
  intro hg hn hm
  have hc := grtB_no hg
  have hn : n ≤ maxLen := by unfold maxLen; omega
  have hm : m ≤ maxLen := by unfold maxLen; omega
  have ha : (apE c n fun k => v k) = 0 := ha
  have eC : (apC c n fun k => v k) = mvC c v := apC_0 ha
  have mC : CelMax (mvC c v) := mvM hc v
  have eF : flC c k a = fltC c k a := flC_0 hf
  have mF : CelMax (fltC c k a) := flt_max hc k a
  rw [eC, eF]
  exact ⟨hc, hn, ha, hc, hn, fun _ => ⟨mC, rfl⟩, fun _ => ⟨hc, hm⟩, ha.symm, fun _ => ⟨hc, hf, hc, fun _ => ⟨mF, rfl⟩, hf.symm, fun _ => ⟨hc, hc.2.1, mF.2.2.1, mF.2.1, hc⟩⟩⟩
set_option maxRecDepth 100000 in
set_option maxHeartbeats 8000000 in
theorem ap2_ok : FnSpec Try.prog 3 _ apw2 := by
  refine FnSpec.of SLb_ok mixed (U := 0) (I := fun _ => []) Try.func3 rfl (by kernel_rfl) rfl rfl (by decide +kernel) ?_
  rintro ⟨c, ⟨n, el⟩, ⟨m, em⟩, ⟨(k : Int), (a : Int), ⟨⟩⟩, ⟨⟩⟩ hpre
  obtain ⟨c, rfl⟩ := cel_ex c
  obtain ⟨v, rfl⟩ : ∃ v : Nat → Int, el = fun k => (v k, ()) := ⟨fun k => (el k).1, rfl⟩
  obtain ⟨lo, hi, rfl⟩ : ∃ lo hi : Nat → Int, em = fun k => (lo k, hi k, ()) := ⟨fun k => (em k).1, fun k => (em k).2.1, rfl⟩
  have hpre : apE c n v = 0 ∧ ¬flE c k a = 0 := by have : apE (celOf (celD c)) n v = 0 ∧ ¬flE (celOf (celD c)) k a = 0 := hpre.2; rwa [celOf_D] at this
  obtain ⟨ha, hf⟩ := hpre
  unfold FnSat
  conv => arg 2; reduce
  simp [-Bool.forall_bool, apw2, trueS, grtS, aplN, aplS, fauN, fauS, celR, celH, celOf_mv, posS, ccheckS, smlS, spoF, spoZ, ElEq, getB, goneB, aliveB, and_assoc]
  intro hg hn hm
  have hc := grtB_no hg
  have hn : n ≤ maxLen := by unfold maxLen; omega
  have hm : m ≤ maxLen := by unfold maxLen; omega
  have ha : (apE c n fun k => v k) = 0 := ha
  have eC : (apC c n fun k => v k) = mvC c v := apC_0 ha
  have mC : CelMax (mvC c v) := mvM hc v
  have eF : flC c k a = celNil := flC_no hf
  have mF := nil_max
  rw [eC, eF]
  exact ⟨hc, hn, ha, hc, hn, fun _ => ⟨mC, rfl⟩, fun _ => ⟨hc, hm⟩, ha.symm, fun _ => ⟨hc, mF, hc, hc.2.1, celNil_n.2.2.2.2.1, celNil_n.2.2.1, hc⟩⟩
set_option maxRecDepth 100000 in
set_option maxHeartbeats 8000000 in
theorem ap3_ok : FnSpec Try.prog 3 _ apw3 := by
  refine FnSpec.of SLc_ok mixed (U := 0) (I := fun _ => []) Try.func3 rfl (by kernel_rfl) rfl rfl (by decide +kernel) ?_
  rintro ⟨c, ⟨n, el⟩, ⟨m, em⟩, ⟨(k : Int), (a : Int), ⟨⟩⟩, ⟨⟩⟩ hpre
  obtain ⟨c, rfl⟩ := cel_ex c
  obtain ⟨v, rfl⟩ : ∃ v : Nat → Int, el = fun k => (v k, ()) := ⟨fun k => (el k).1, rfl⟩
  obtain ⟨lo, hi, rfl⟩ : ∃ lo hi : Nat → Int, em = fun k => (lo k, hi k, ()) := ⟨fun k => (em k).1, fun k => (em k).2.1, rfl⟩
  have hpre : ¬apE c n v = 0 ∧ flE c k a = 0 := by have : ¬apE (celOf (celD c)) n v = 0 ∧ flE (celOf (celD c)) k a = 0 := hpre.2; rwa [celOf_D] at this
  obtain ⟨ha, hf⟩ := hpre
  unfold FnSat
  conv => arg 2; reduce
  simp [-Bool.forall_bool, apw3, trueS, grtS, aplN, aplS, fauN, fauS, celR, celH, celOf_mv, posS, ccheckS, smlS, spoF, spoZ, ElEq, getB, goneB, aliveB, and_assoc]
  intro hg hn hm
  have hc := grtB_no hg
  have hn : n ≤ maxLen := by unfold maxLen; omega
  have hm : m ≤ maxLen := by unfold maxLen; omega
  have ha : ¬(apE c n fun k => v k) = 0 := ha
  have eC : (apC c n fun k => v k) = celNil := apC_n ha
  have mC := nil_max
  have eF : flC c k a = fltC c k a := flC_0 hf
  have mF : CelMax (fltC c k a) := flt_max hc k a
  rw [eC, eF]
  exact ⟨hc, hn, hc, hn, mC, hc, hm, hc, hm, hc, hf, hc, fun _ => ⟨mF, rfl⟩, hf.symm, fun _ => ⟨hc, celNil_n.2.2.1, mF.2.2.1, mF.2.1, hc⟩⟩
set_option maxRecDepth 100000 in
set_option maxHeartbeats 8000000 in
theorem ap4_ok : FnSpec Try.prog 3 _ apw4 := by
  refine FnSpec.of SLd_ok mixed (U := 0) (I := fun _ => []) Try.func3 rfl (by kernel_rfl) rfl rfl (by decide +kernel) ?_
  rintro ⟨c, ⟨n, el⟩, ⟨m, em⟩, ⟨(k : Int), (a : Int), ⟨⟩⟩, ⟨⟩⟩ hpre
  obtain ⟨c, rfl⟩ := cel_ex c
  obtain ⟨v, rfl⟩ : ∃ v : Nat → Int, el = fun k => (v k, ()) := ⟨fun k => (el k).1, rfl⟩
  obtain ⟨lo, hi, rfl⟩ : ∃ lo hi : Nat → Int, em = fun k => (lo k, hi k, ()) := ⟨fun k => (em k).1, fun k => (em k).2.1, rfl⟩
  have hpre : ¬apE c n v = 0 ∧ ¬flE c k a = 0 := by have : ¬apE (celOf (celD c)) n v = 0 ∧ ¬flE (celOf (celD c)) k a = 0 := hpre.2; rwa [celOf_D] at this
  obtain ⟨ha, hf⟩ := hpre
  unfold FnSat
  conv => arg 2; reduce
  simp [-Bool.forall_bool, apw4, trueS, grtS, aplN, aplS, fauN, fauS, celR, celH, celOf_mv, posS, ccheckS, smlS, spoF, spoZ, ElEq, getB, goneB, aliveB, and_assoc]
  intro hg hn hm
  have hc := grtB_no hg
  have hn : n ≤ maxLen := by unfold maxLen; omega
  have hm : m ≤ maxLen := by unfold maxLen; omega
  have ha : ¬(apE c n fun k => v k) = 0 := ha
  have eC : (apC c n fun k => v k) = celNil := apC_n ha
  have mC := nil_max
  have eF : flC c k a = celNil := flC_no hf
  have mF := nil_max
  rw [eC, eF]
  exact ⟨hc, hn, hc, hn, mC, hc, hm, hc, hm, hc, mF, hc, celNil_n.2.2.1, celNil_n.2.2.2.2.1, celNil_n.2.2.1, hc⟩
theorem cellApplies_law : LawFn Try.prog 3 apwSh := fun x hv => by
  by_cases h1 : apP x
  · by_cases h2 : flP x
    · exact ap1_ok x ⟨hv, h1, h2⟩
    · exact ap2_ok x ⟨hv, h1, h2⟩
  · by_cases h2 : flP x
    · exact ap3_ok x ⟨hv, h1, h2⟩
    · exact ap4_ok x ⟨hv, h1, h2⟩
end
end Abs
open Go.ChangeShapes Go.WideShapes Go.ChangeAt Go.RowKit
set_option maxRecDepth 100000 in
theorem cellApplies_lifted (os : Os) (started : os.Started) (H : Type) (enc : TypeId × Value → H) :
    ReturnsInHanded {} Try.checked os 3 .any (Rows.cellAppliesSpec.pre6 enc Try.prog Try.f3 Rows.cellAppliesRow.domain false) (Rows.cellAppliesSpec.post enc Try.prog Try.f3 false true false false) := by
  refine returnsInHanded_of_change (C := Try.checked) (show ownKnob Try.prog.godebug = none by kernel_rfl) started (by kernel_rfl) Try.func3
    (ChangeSpec.witness6 (enc := enc) (C := Try.checked) false ⟨#[], #[.agg #[.int .i64 0, .slice none 0 0, .slice none 0 0, .int .i64 0, .slice none 0 0, .slice none 0 0, .int .i64 0, .int .i64 0, .int .i64 0, .int .i64 0, .int .i64 0, .int .i64 0, .slice none 0 0, .slice none 0 0, .int .i64 0, .int .i64 0, .int .i64 0], .slice none 0 0, .slice none 0 0, .agg #[.int .i64 0, .int .i64 0]], []⟩ 8 (by kernel_rfl) (by kernel_rfl) (by kernel_rfl) (by kernel_rfl)) ?_
  intro W base args ds gs before hval0 hW hcnd _
  have hW0 := hW
  obtain ⟨p, q, hA, hV, rfl, hfz, hnd⟩ := hW0
  refine (Abs.law_calls (enc' := enc) Abs.cellApplies_law (fn := Try.f3) (d := 5) (by kernel_rfl) hA hval0).mono fun e W' hh => ?_
  obtain ⟨he, hb⟩ := hh
  subst he
  exact ⟨_, rfl, Abs.law_post (s := Rows.cellAppliesSpec) (f := Try.f3) (by kernel_rfl) rfl (by kernel_rfl) (by kernel_rfl) rfl 4 (by kernel_rfl) (fun ds hl => by
    rcases ds with _ | ⟨d0, _ | ⟨d1, _ | ⟨d2, _ | ⟨d3, _ | ⟨d4, _⟩⟩⟩⟩⟩
    all_goals first | exact ⟨rfl, rfl, rfl⟩ | (exfalso; simp only [List.length_cons, List.length_nil] at hl; omega)) hW hb⟩
theorem cellApplies_holds : Rows.CellAppliesSaid :=
  OpenClaim.holds_of_wide 3 Try.f3 rfl rfl rfl rfl rfl rfl rfl ⟨rfl, rfl, rfl, rfl, rfl⟩ rfl rfl rfl rfl rfl (by kernel_rfl) Try.func3 (by kernel_rfl)
    (of_decide_eq_true (by kernel_rfl)) (by unfold Func.isWrapper; first | (rw [if_pos (by decide +kernel)]; kernel_rfl) | (rw [if_neg (by decide +kernel)]; exact ⟨rfl, rfl⟩))
    (fun os started H enc _ => cellApplies_lifted os started H enc)
end Go.Proofs.Ytbfdmfplhphilaa

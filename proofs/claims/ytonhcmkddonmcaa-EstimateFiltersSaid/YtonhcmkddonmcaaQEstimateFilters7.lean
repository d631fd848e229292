/- A filter is behind each reading as the document says; a copy goes on alike, and apart; no condition. -/
import Derived.Test.YtonhcmkddonmcaaQG17a6ff83
import Derived.Test.YtonhcmkddonmcaaRows
set_option linter.unusedSimpArgs false
set_option linter.unusedVariables false
namespace Go.Proofs.Ytonhcmkddonmcaa
namespace Abs
open Go Go.RowKit
noncomputable section
attribute [local irreducible] FnSat
@[reducible] def st5f : List (Option IntKind) := [some .i64, some .i64, some .i64, some .i64, some .i64]
def eqsF : List (Nat × List (Option IntKind)) := [(30, st5f)]
theorem eqsF_ok : ∀ t ks, findS eqsF t = some ks → EqOK Try.prog t ks := by
  intro t ks h
  unfold eqsF at h
  simp only [findS] at h
  split at h
  · rename_i e
    obtain rfl := Nat.eq_of_beq_eq_true e
    injection h with h; subst h
    exact EqOK.of 3 (by decide) (by kernel_rfl) (by kernel_rfl) (by kernel_rfl)
  · cases h
noncomputable def SFm : Sums := ⟨SFl.one, SFl.two, SFl.lo, eqsF, SFl.its, SFl.imm⟩
theorem SFm_ok : SumsOK Try.prog SFm := SFl_ok.setEqs eqsF_ok
noncomputable def SFa : Sums := ⟨(7, mkSum _ nfS) :: (6, mkSum _ nfS) :: (4, mkSum _ shtS) :: (5, mkSum _ tru3) :: SFm.one, SFm.two, SFm.lo, SFm.eqs, SFm.its, SFm.imm⟩
theorem SFa_ok : SumsOK Try.prog SFa := ((((SFm_ok.cons Try.func5 (by kernel_rfl) (by kernel_rfl) works_ok).cons Try.func4 (by kernel_rfl) (by kernel_rfl) sht_ok).cons Try.func6 (by kernel_rfl) (by kernel_rfl) nfE_ok).cons Try.func7 (by kernel_rfl) (by kernel_rfl) rnfE_ok)
noncomputable def SFb : Sums := ⟨(7, mkSumN _ rnfN) :: (6, mkSumN _ nfN) :: (4, mkSum _ shtS) :: (5, mkSum _ tru3) :: SFm.one, SFm.two, SFm.lo, SFm.eqs, SFm.its, SFm.imm⟩
theorem SFb_ok : SumsOK Try.prog SFb := ((((SFm_ok.cons Try.func5 (by kernel_rfl) (by kernel_rfl) works_ok).cons Try.func4 (by kernel_rfl) (by kernel_rfl) sht_ok).add Try.func6 (by kernel_rfl) (by kernel_rfl) (mkSumN_ok nfN_ok)).add Try.func7 (by kernel_rfl) (by kernel_rfl) (mkSumN_ok rnfN_ok))
@[reducible] def rdsSh : Sh := .slice 8 [.bool, .bool, .bool, .bool, .int .i64, .int .i64, .int .i64, .int .i64]
@[reducible] def flwSh : List Sh := [celSh, gnSh, staSh, rdsSh, .int .u8]
def flwA : Spec flwSh := ⟨fun x => ValidL flwSh x ∧ (shtB (celOf x.1) = true → ¬nfE (celOf x.1) (staOf x.2.2.1) x.2.1.1 x.2.1.2.1 x.2.1.2.2.1 = 0), fun _ => .sb true⟩
def flwB : Spec flwSh := ⟨fun x => ValidL flwSh x ∧ shtB (celOf x.1) = true ∧ nfE (celOf x.1) (staOf x.2.2.1) x.2.1.1 x.2.1.2.1 x.2.1.2.2.1 = 0, fun _ => .sb true⟩
set_option maxRecDepth 100000 in
set_option maxHeartbeats 2000000 in
theorem flA_ok : FnSpec Try.prog 3 _ flwA := by
  refine FnSpec.of SFa_ok mixed (U := 0) (I := fun _ => []) Try.func3 rfl (by kernel_rfl) rfl rfl (by decide +kernel) ?_
  rintro ⟨c, ⟨(gq : Int), (gr : Int), (gt : Int), ⟨⟩⟩, s, ⟨n, el⟩, (at' : Int), ⟨⟩⟩ hpre
  obtain ⟨c, rfl⟩ := cel_ex c
  obtain ⟨s, rfl⟩ := sta_ex s
  have hpre : shtB c = true → ¬nfE c s gq gr gt = 0 := by have := hpre.2; rwa [celOf_D, staOf_D] at this
  unfold FnSat
  conv => arg 2; reduce
  simp [-Bool.forall_bool, flwA, tru3, shtS, nfS, and_assoc]
  exact fun h => ⟨shtB_max h, hpre h⟩
def FlInv (n g : Nat) (c : Cel) (gq gr gt : Int) (s : Sta) (ic ia : Int) : Prop := g ≤ n ∧ FilOK c s gq gr gt ic ia
attribute [irreducible] FlInv
theorem flInv_iff {n g : Nat} {c : Cel} {gq gr gt : Int} {s : Sta} {ic ia : Int} : FlInv n g c gq gr gt s ic ia ↔ g ≤ n ∧ FilOK c s gq gr gt ic ia := by unfold FlInv; exact Iff.rfl
theorem tk_ok {c : Cel} {s : Sta} {gq gr gt ic ia : Int} {R : Rd} (h : FilOK c s gq gr gt ic ia) : FilOK c (tkS c s gq gr gt ic ia R) gq gr gt (tkC c s gq gr gt ic ia R) (tkA c s gq gr gt ic ia R) := by
  obtain ⟨hc, hs, hg, hi⟩ := h
  have eE : tkE c s gq gr gt ic ia R = if rgR R = true then stAE c (fSt c s gq gr gt (fCu ic R) R) (fCu ic R) (fAm ia R) else 3 := by unfold tkE; rfl
  have eS : tkS c s gq gr gt ic ia R = if tkE c s gq gr gt ic ia R = 0 then stA c (fSt c s gq gr gt (fCu ic R) R) (fCu ic R) (fAm ia R) else s := by unfold tkS; rfl
  have eC : tkC c s gq gr gt ic ia R = if tkE c s gq gr gt ic ia R = 0 then fCu ic R else ic := by unfold tkC; rfl
  have eA : tkA c s gq gr gt ic ia R = if tkE c s gq gr gt ic ia R = 0 then fAm ia R else ia := by unfold tkA; rfl
  by_cases e : tkE c s gq gr gt ic ia R = 0
  · rw [eS, eC, eA, if_pos e, if_pos e, if_pos e]
    rw [eE] at e
    split at e
    · have h0 : csE c (fSt c s gq gr gt (fCu ic R) R) = 0 := by
        by_cases h1 : csE c (fSt c s gq gr gt (fCu ic R) R) = 0
        · exact h1
        · unfold stAE at e; rw [aE_no h1] at e; exact e
      obtain ⟨k1, k2, k3, k4, k5⟩ := stA_ok h0 e
      exact ⟨hc, k1, hg, inB_iff.2 ⟨⟨k2, k3⟩, k4, k5⟩⟩
    · omega
  · rw [eS, eC, eA, if_neg e, if_neg e, if_neg e]
    exact ⟨hc, hs, hg, hi⟩
theorem fil_T {c : Cel} {gq gr gt : Int} {s : Sta} {ic ia : Int} (h : FilOK c s gq gr gt ic ia) : FilOK (rfC (rfilD c gq gr gt s ic ia)) (rfS (rfilD c gq gr gt s ic ia)) (rfG (rfilD c gq gr gt s ic ia)).1 (rfG (rfilD c gq gr gt s ic ia)).2.1 (rfG (rfilD c gq gr gt s ic ia)).2.2.1 (rfG (rfilD c gq gr gt s ic ia)).2.2.2.1 (rfG (rfilD c gq gr gt s ic ia)).2.2.2.2 := by
  rw [rfC_D, rfS_D, rfG_D]; exact h
theorem fl_init {c : Cel} {s : Sta} {gq gr gt : Int} (h : nfE c s gq gr gt = 0) : FilOK c s gq gr gt 0 s.tp := by
  unfold nfE at h
  split at h
  · rename_i hc
    split at h
    · rename_i hg
      obtain ⟨_, hs⟩ := csE_iff.1 h
      exact ⟨hc, hs, hg, inB_iff.2 ⟨⟨by decide, by decide⟩, hs.t0, hs.t1⟩⟩
    · omega
  · omega
def flI : DatL flwSh → Anns := fun (c, ((gq : Int), (gr : Int), (gt : Int), _), _, (n, _), _) => [
  (10, [], fun fr hp => ⟨Nat × Sta × Int × Int, fun (g, s, ic, ia) => ⟨frI [.k 15, .s (.si .i64 (icast g)), .t 99] fr, setB (setB hp 6 (.cells 71 (.sb true :: rfilL (celOf c) gq gr gt s ic ia))) 10 (.cells 52 (rfilL (celOf c) gq gr gt s ic ia))⟩,
    Nat × Cel × (Int × Int × Int) × (Nat × Sta × Int × Int), fun x => (n, celOf c, (gq, gr, gt), x), fun (n, c, (gq, gr, gt), (g, s, ic, ia)) => FlInv n g c gq gr gt s ic ia, fun (g, _) => nsub n g⟩)]
set_option maxRecDepth 100000 in
set_option maxHeartbeats 8000000 in
theorem flB_ok : FnSpec Try.prog 3 _ flwB := by
  refine FnSpec.of SFb_ok mixed (U := 0) (I := flI) Try.func3 rfl (by kernel_rfl) rfl rfl (by decide +kernel) ?_
  rintro ⟨c, ⟨(gq : Int), (gr : Int), (gt : Int), ⟨⟩⟩, s, ⟨n, el⟩, (at' : Int), ⟨⟩⟩ hpre
  obtain ⟨c, rfl⟩ := cel_ex c
  obtain ⟨s, rfl⟩ := sta_ex s
  have hpre' : shtB c = true ∧ nfE c s gq gr gt = 0 := by have := hpre.2; rwa [celOf_D, staOf_D] at this
  have hat := hpre.1
  simp only [flwSh, ValidL, Valid] at hat
  have hat := hat.2.2.2.2.1
  simp [InR, IntKind.min, IntKind.max, IntKind.signed, IntKind.bits] at hat
  obtain ⟨h0, h1, h2, h3, v0, v1, v2, v3, rfl⟩ : ∃ h0 h1 h2 h3 : Nat → Bool, ∃ v0 v1 v2 v3 : Nat → Int, el = fun k => (h0 k, h1 k, h2 k, h3 k, v0 k, v1 k, v2 k, v3 k, ()) :=
    ⟨fun k => (el k).1, fun k => (el k).2.1, fun k => (el k).2.2.1, fun k => (el k).2.2.2.1, fun k => (el k).2.2.2.2.1, fun k => (el k).2.2.2.2.2.1, fun k => (el k).2.2.2.2.2.2.1, fun k => (el k).2.2.2.2.2.2.2.1, rfl⟩
  unfold FnSat
  conv => arg 2; reduce
  simp [-Bool.forall_bool, flwB, tru3, shtS, nfN, rnfN, takF, rtakF, cpF, rcpF, fstS, and_assoc]
  intro hsh
  have hm := shtB_max hsh
  refine ⟨hm, hpre'.2, hm, hpre'.2, ⟨0, rfl, s, rfl, rfl, rfl, rfl, rfl, rfl, rfl, rfl, rfl, rfl, flInv_iff.2 ⟨Nat.zero_le _, fl_init hpre'.2⟩⟩, fun g t ic ia hinv h1 h2 => ?_⟩
  obtain ⟨hg, hf⟩ := flInv_iff.1 hinv
  have hT := fil_T hf
  have hN := fun R => flInv_iff.2 (⟨h1, tk_ok (R := R) hf⟩ : g + 1 ≤ n ∧ _)
  refine ⟨by omega, by omega, fun _ => ⟨h1, hT, h1, hT, by omega, by omega, g + 1, by omega, _, rfl, rfl, rfl, rfl, rfl, rfl, rfl, rfl, rfl, rfl, hN _, by omega⟩, fun _ => ⟨h1, hT, by omega, by omega, g + 1, by omega, _, rfl, rfl, rfl, rfl, rfl, rfl, rfl, rfl, rfl, rfl, hN _, by omega⟩⟩
theorem estimateFilters_law : LawFn Try.prog 3 flwSh := fun x hv => by
  by_cases h : shtB (celOf x.1) = true ∧ nfE (celOf x.1) (staOf x.2.2.1) x.2.1.1 x.2.1.2.1 x.2.1.2.2.1 = 0
  · exact flB_ok x ⟨hv, h⟩
  · exact flA_ok x ⟨hv, fun h1 h2 => h ⟨h1, h2⟩⟩
end
end Abs
open Go.ChangeShapes Go.WideShapes Go.ChangeAt Go.RowKit
set_option maxRecDepth 100000 in
theorem estimateFilters_lifted (os : Os) (started : os.Started) (H : Type) (enc : TypeId × Value → H) :
    ReturnsInHanded {} Try.checked os 3 .any (Rows.estimateFiltersSpec.pre6 enc Try.prog Try.f3 Rows.estimateFiltersRow.domain false) (Rows.estimateFiltersSpec.post enc Try.prog Try.f3 false true false false) := by
  refine returnsInHanded_of_change (C := Try.checked) (show ownKnob Try.prog.godebug = none by kernel_rfl) started (by kernel_rfl) Try.func3
    (ChangeSpec.witness6 (enc := enc) (C := Try.checked) false ⟨#[], #[.agg #[.int .i64 0, .slice none 0 0, .slice none 0 0, .int .i64 0, .slice none 0 0, .slice none 0 0, .int .i64 0, .int .i64 0, .int .i64 0, .int .i64 0, .int .i64 0, .int .i64 0, .slice none 0 0, .slice none 0 0, .int .i64 0, .int .i64 0, .int .i64 0], .agg #[.int .i64 0, .int .i64 0, .int .i64 0], .agg #[.int .i64 0, .int .i64 0, .int .i64 0, .int .i64 0, .int .i64 0], .slice none 0 0, .int .u8 0], []⟩ 8 (by kernel_rfl) (by kernel_rfl) (by kernel_rfl) (by kernel_rfl)) ?_
  intro W base args ds gs before hval0 hW hcnd _
  have hW0 := hW
  obtain ⟨p, q, hA, hV, rfl, hfz, hnd⟩ := hW0
  refine (Abs.law_calls (enc' := enc) Abs.estimateFilters_law (fn := Try.f3) (d := 5) (by kernel_rfl) hA hval0).mono fun e W' hh => ?_
  obtain ⟨he, hb⟩ := hh
  subst he
  exact ⟨_, rfl, Abs.law_post (s := Rows.estimateFiltersSpec) (f := Try.f3) (by kernel_rfl) rfl (by kernel_rfl) (by kernel_rfl) rfl 5 (by kernel_rfl) (fun ds hl => by
    rcases ds with _ | ⟨d0, _ | ⟨d1, _ | ⟨d2, _ | ⟨d3, _ | ⟨d4, _ | ⟨d5, _⟩⟩⟩⟩⟩⟩
    all_goals first | exact ⟨rfl, rfl, rfl⟩ | (exfalso; simp only [List.length_cons, List.length_nil] at hl; omega)) hW hb⟩
theorem estimateFilters_holds : Rows.EstimateFiltersSaid :=
  OpenClaim.holds_of_wide 3 Try.f3 rfl rfl rfl rfl rfl rfl rfl ⟨rfl, rfl, rfl, rfl, rfl⟩ rfl rfl rfl rfl rfl (by kernel_rfl) Try.func3 (by kernel_rfl)
    (of_decide_eq_true (by kernel_rfl)) (by unfold Func.isWrapper; first | (rw [if_pos (by decide +kernel)]; kernel_rfl) | (rw [if_neg (by decide +kernel)]; exact ⟨rfl, rfl⟩))
    (fun os started H enc _ => estimateFilters_lifted os started H enc)
end Go.Proofs.Ytonhcmkddonmcaa

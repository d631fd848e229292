/- More charge means at least as much fill, voltage and charge afterwards, and changes nothing else; for a greater current the voltage is not greater; no condition. -/
import Derived.Test.YtghmkkdmpmmbhaaQGf6ed4c83
import Derived.Test.YtghmkkdmpmmbhaaRows
set_option linter.unusedSimpArgs false
set_option linter.unusedVariables false
namespace Go.Proofs.Ytghmkkdmpmmbhaa
namespace Abs
open Go Go.RowKit
noncomputable section
attribute [local irreducible] FnSat
set_option maxRecDepth 100000 in
set_option maxHeartbeats 4000000 in
theorem cellOrder_law : LawFn Try.prog 4 [celSh, staSh, .int .i64, inSh, .int .i64] := by
  refine FnSpec.of SRg_ok mixed (U := 0) (I := fun _ => []) Try.func4 rfl (by kernel_rfl) rfl rfl (by decide +kernel) ?_
  rintro ⟨c, s, (q : Int), ⟨(i : Int), (a : Int), ⟨⟩⟩, (j : Int), ⟨⟩⟩ hv
  obtain ⟨c, rfl⟩ := cel_ex c
  obtain ⟨s, rfl⟩ := sta_ex s
  unfold FnSat
  conv => arg 2; reduce
  obtain ⟨t, ht⟩ : ∃ t : Sta, t = ⟨q, s.rx, s.tp, s.th, s.ag⟩ := ⟨_, rfl⟩
  have et : staOf (q, s.rx, s.tp, s.th, s.ag, PUnit.unit) = t := by rw [ht]; unfold staOf; rfl
  simp [-Bool.forall_bool, trueS, grtS, cstS, capS, stpT, filS, opnS, volS, et, and_assoc]
  have t1 : t.q = q := by rw [ht]; simp
  have t2 : t.rx = s.rx := by rw [ht]; simp
  have t3 : t.tp = s.tp := by rw [ht]; simp
  have t4 : t.th = s.th := by rw [ht]; simp
  have t5 : t.ag = s.ag := by rw [ht]; simp
  clear ht et
  refine ⟨grtB_no, fun h _ => grtB_no h, fun hg hs ht hq j1 j2 => ?_⟩
  have hmax := grtB_no hg
  obtain ⟨hcb, hs0⟩ := csE_iff.1 hs
  have hk := celB_iff.1 hcb
  have k1 := kV_in hcb hs0
  have ew : wV c t = wV c s := by unfold wV; rw [t4, t5]
  have ek : kV c t = kV c s := by unfold kV; rw [ew]
  have er : rV c t = rV c s := by unfold rV; rw [ew, t3]
  have eH : nxH t i = nxH s i := by unfold nxH; rw [t4]
  have eA : nxA c t = nxA c s := by unfold nxA; rw [t5, t3]
  have eh : heatV c t i = heatV c s i := by unfold heatV; rw [er, t2]
  have eR : nxR c t i = nxR c s i := by unfold nxR; rw [t2]
  have eT : nxT c t i a = nxT c s i a := by unfold nxT; rw [eh, t3]
  have eE : stAE c s i a = stAE c t i a := by
    unfold stAE
    rw [aE_yes hs, aE_yes ht]
    unfold stpE ovr
    rw [eH, eA]
  have mQ : nxQ c s i ≤ nxQ c t i := by
    unfold nxQ
    rw [eH, eA, t1]
    exact clipV_mono (by omega)
  have mf : fillV c s ≤ fillV c t := by
    have := dvI_mono (a := s.q * 65536) (b := q * 65536) k1.1 (by omega)
    unfold fillV pcV
    rw [ek, t1]
    omega
  have mo : opnV c s ≤ opnV c t := by
    have := valL_mono (scB_iff.1 hk.ocv).1 mf
    unfold opnV openV
    omega
  have mv : voltV c s i ≤ voltV c t i := by
    unfold voltV
    rw [er, t2]
    omega
  have mi : ∀ x y : Int, x ≤ y → voltV c s y ≤ voltV c s x := fun x y hxy => by
    have := dvI_mono (d := 1000) (by decide) (Int.mul_le_mul_of_nonneg_right hxy (@rV_in c s).1)
    unfold voltV
    omega
  refine ⟨hmax, eE, fun _ h0 => ?_⟩
  have h0' : stAE c t i a = 0 := by rw [← eE]; exact h0
  have e1 := stA_0 hs h0
  have e2 := stA_0 ht h0'
  obtain ⟨_, i1, i2, _, _⟩ := stA_ok hs h0
  have ci := curI_iff.2 ⟨i1, i2⟩
  have cj := curI_iff.2 ⟨j1, j2⟩
  have wi : wiE i = 0 := by unfold wiE; rw [if_pos ci]
  have wj : wiE j = 0 := by unfold wiE; rw [if_pos cj]
  have vi : ∀ x, wiV i x = x := fun x => by unfold wiV; rw [if_pos ci]
  have vj : ∀ x, wiV j x = x := fun x => by unfold wiV; rw [if_pos cj]
  have E1 : aE c s 0 = 0 := aE_yes hs
  have E2 : aE c t 0 = 0 := aE_yes ht
  have E3 : aE c s (wiE i) = 0 := by rw [aE_yes hs, wi]
  have E4 : aE c t (wiE i) = 0 := by rw [aE_yes ht, wi]
  have E5 : aE c s (wiE j) = 0 := by rw [aE_yes hs, wj]
  have A1 : aV c s (fillV c s) = fillV c s := aV_yes hs
  have A2 : aV c t (fillV c t) = fillV c t := aV_yes ht
  have A3 : aV c s (opnV c s) = opnV c s := aV_yes hs
  have A4 : aV c t (opnV c t) = opnV c t := aV_yes ht
  have A5 : aV c s (wiV i (voltV c s i)) = voltV c s i := by rw [aV_yes hs, vi]
  have A6 : aV c t (wiV i (voltV c t i)) = voltV c t i := by rw [aV_yes ht, vi]
  have A7 : aV c s (wiV j (voltV c s j)) = voltV c s j := by rw [aV_yes hs, vj]
  have S1 : (stA c s i a).q ≤ (stA c t i a).q := by rw [e1, e2]; simpa using mQ
  have S2 : (stA c s i a).rx = (stA c t i a).rx := by rw [e1, e2]; simpa using eR.symm
  have S3 : (stA c s i a).tp = (stA c t i a).tp := by rw [e1, e2]; simpa using eT.symm
  have S4 : (stA c s i a).th = (stA c t i a).th := by rw [e1, e2]; simpa using eH.symm
  have S5 : (stA c s i a).ag = (stA c t i a).ag := by rw [e1, e2]; simpa using eA.symm
  have o1 : j < i ∨ aV c s (wiV j (voltV c s j)) ≤ aV c s (wiV i (voltV c s i)) := by
    rcases Int.lt_or_le j i with h | h
    · exact .inl h
    · refine .inr ?_
      have := mi i j h
      omega
  have o2 : i < j ∨ aV c s (wiV i (voltV c s i)) ≤ aV c s (wiV j (voltV c s j)) := by
    rcases Int.lt_or_le i j with h | h
    · exact .inl h
    · refine .inr ?_
      have := mi j i h
      omega
  exact ⟨hmax, by omega, by omega, by omega, by omega, by omega, by omega, by omega, by omega, by omega, by omega, by omega, by omega, by omega, by omega, S1, fun _ _ _ _ _ => ⟨hmax, fun a b c d e f => ⟨a, b, c, d, e, f⟩, fun a b c d e f g => ⟨a, b, c, d, e, f, g⟩, E5, S2, S3, S4, S5, o1, o2⟩⟩
end
end Abs
open Go.ChangeShapes Go.WideShapes Go.ChangeAt Go.RowKit
set_option maxRecDepth 100000 in
theorem cellOrder_lifted (os : Os) (started : os.Started) (H : Type) (enc : TypeId × Value → H) :
    ReturnsInHanded {} Try.checked os 4 .any (Rows.cellOrderSpec.pre6 enc Try.prog Try.f4 Rows.cellOrderRow.domain false) (Rows.cellOrderSpec.post enc Try.prog Try.f4 false true false false) := by
  refine returnsInHanded_of_change (C := Try.checked) (show ownKnob Try.prog.godebug = none by kernel_rfl) started (by kernel_rfl) Try.func4
    (ChangeSpec.witness6 (enc := enc) (C := Try.checked) false ⟨#[], #[.agg #[.int .i64 0, .slice none 0 0, .slice none 0 0, .int .i64 0, .slice none 0 0, .slice none 0 0, .int .i64 0, .int .i64 0, .int .i64 0, .int .i64 0, .int .i64 0, .int .i64 0, .slice none 0 0, .slice none 0 0, .int .i64 0, .int .i64 0, .int .i64 0], .agg #[.int .i64 0, .int .i64 0, .int .i64 0, .int .i64 0, .int .i64 0], .int .i64 0, .agg #[.int .i64 0, .int .i64 0], .int .i64 0], []⟩ 8 (by kernel_rfl) (by kernel_rfl) (by kernel_rfl) (by kernel_rfl)) ?_
  intro W base args ds gs before hval0 hW hcnd _
  have hW0 := hW
  obtain ⟨p, q, hA, hV, rfl, hfz, hnd⟩ := hW0
  refine (Abs.law_calls (enc' := enc) Abs.cellOrder_law (fn := Try.f4) (d := 4) (by kernel_rfl) hA hval0).mono fun e W' hh => ?_
  obtain ⟨he, hb⟩ := hh
  subst he
  exact ⟨_, rfl, Abs.law_post (s := Rows.cellOrderSpec) (f := Try.f4) (by kernel_rfl) rfl (by kernel_rfl) (by kernel_rfl) rfl 5 (by kernel_rfl) (fun ds hl => by
    rcases ds with _ | ⟨d0, _ | ⟨d1, _ | ⟨d2, _ | ⟨d3, _ | ⟨d4, _ | ⟨d5, _⟩⟩⟩⟩⟩⟩
    all_goals first | exact ⟨rfl, rfl, rfl⟩ | (exfalso; simp only [List.length_cons, List.length_nil] at hl; omega)) hW hb⟩
theorem cellOrder_holds : Rows.CellOrderSaid :=
  OpenClaim.holds_of_wide 4 Try.f4 rfl rfl rfl rfl rfl rfl rfl ⟨rfl, rfl, rfl, rfl, rfl⟩ rfl rfl rfl rfl rfl (by kernel_rfl) Try.func4 (by kernel_rfl)
    (of_decide_eq_true (by kernel_rfl)) (by unfold Func.isWrapper; first | (rw [if_pos (by decide +kernel)]; kernel_rfl) | (rw [if_neg (by decide +kernel)]; exact ⟨rfl, rfl⟩))
    (fun os started H enc _ => cellOrder_lifted os started H enc)
end Go.Proofs.Ytghmkkdmpmmbhaa

/- From step to step what has gone through a cell and its age do not decrease, the capacity does not increase, and the charge is that at first less all currents and leaks while it is not brought into its range; no condition. -/
import Derived.Test.YtghmkkdmpmmbhaaQGf6ed4c83
import Derived.Test.YtghmkkdmpmmbhaaRows
set_option linter.unusedSimpArgs false
set_option linter.unusedVariables false
namespace Go.Proofs.Ytghmkkdmpmmbhaa
namespace Abs
open Go Go.RowKit
noncomputable section
attribute [local irreducible] FnSat
@[reducible] def insSh : Sh := .slice 2 [.int .i64, .int .i64]
def AgInv (n : Nat) (c : Cel) (g : Nat) (s : Sta) (ch : Int) (b : Bool) : Prop := g ≤ n ∧ StOK c s ∧ -4398046511104 - 2097152 * (g : Int) ≤ ch ∧ ch ≤ 4398046511104 + 2097152 * (g : Int) ∧ (b = true → ch = s.q)
attribute [irreducible] AgInv
theorem agInv_iff {n : Nat} {c : Cel} {g : Nat} {s : Sta} {ch : Int} {b : Bool} : AgInv n c g s ch b ↔ g ≤ n ∧ StOK c s ∧ -4398046511104 - 2097152 * (g : Int) ≤ ch ∧ ch ≤ 4398046511104 + 2097152 * (g : Int) ∧ (b = true → ch = s.q) := by unfold AgInv; exact Iff.rfl
def agesI : DatL [celSh, staSh, insSh] → Anns := fun (c, _, (n, _), _) => [
  (8, [], fun fr hp => ⟨Nat × Sta × Int × Bool, fun (g, s, ch, b) => ⟨frI [.k 7, .s (.si .i64 ch), .s (.sb b), .s (.si .i64 (kV (celOf c) s)), .k 1, .s (.si .i64 (icast g)), .t 4, .k 24, .t 97] fr, setB hp 1 (.cells 28 [.si .i64 s.q, .si .i64 s.rx, .si .i64 s.tp, .si .i64 s.th, .si .i64 s.ag])⟩,
    Nat × Cel × (Nat × Sta × Int × Bool), fun x => (n, celOf c, x), fun (n, c, (g, s, ch, b)) => AgInv n c g s ch b, fun (g, _) => nsub n g⟩)]
theorem kV_le {c : Cel} {s u : Sta} (h : celB c = true) (hs : StOK c s) (h1 : s.th ≤ u.th) (h2 : s.ag ≤ u.ag) : kV c u ≤ kV c s := by
  have hk := celB_iff.1 h
  have m1 := dvI_mono (d := 1073741824) (by decide) (Int.mul_le_mul_of_nonneg_right h1 hk.cy0)
  have m2 := dvI_mono (d := 1073741824) (by decide) (Int.mul_le_mul_of_nonneg_right h2 hk.al0)
  unfold kV roomV wV wearV
  omega
set_option maxRecDepth 100000 in
set_option maxHeartbeats 4000000 in
theorem cellAges_law : LawFn Try.prog 3 [celSh, staSh, insSh] := by
  refine FnSpec.of SRg_ok mixed (U := 0) (I := agesI) Try.func3 rfl (by kernel_rfl) rfl rfl (by decide +kernel) ?_
  rintro ⟨c, s, ⟨n, el⟩, ⟨⟩⟩ hv
  obtain ⟨c, rfl⟩ := cel_ex c
  obtain ⟨s, rfl⟩ := sta_ex s
  obtain ⟨cu, am, rfl⟩ : ∃ cu am : Nat → Int, el = fun k => (cu k, am k, ()) := ⟨fun k => (el k).1, fun k => (el k).2.1, rfl⟩
  unfold FnSat
  conv => arg 2; reduce
  simp [-Bool.forall_bool, trueS, grtS, cstS, capS, stpT, and_assoc]
  refine ⟨fun h _ => grtB_no h, fun hg hn hc => ?_⟩
  have hmax := grtB_no hg
  obtain ⟨hcb, hs0⟩ := csE_iff.1 hc
  have hk := celB_iff.1 hcb
  refine ⟨hmax, aE_yes hc, fun _ => ⟨⟨0, s, aV_yes hc, rfl, rfl, rfl, rfl, rfl, rfl, agInv_iff.2 ⟨by omega, hs0, ?_, ?_, fun _ => rfl⟩⟩, fun g t ch b hinv hlt => ?_⟩⟩
  · have := (q_in hs0).1; omega
  · have := (q_in hs0).2
    have := (kV_in hcb hs0).2
    omega
  obtain ⟨_, hst, c1, c2, hb⟩ := agInv_iff.1 hinv
  have hcs : csE c t = 0 := csE_0 hcb hst
  obtain ⟨_, hor⟩ := stA_iff (i := cu g) (a := am g) hcs
  refine ⟨hlt, hmax, fun h => by omega, fun h => ?_⟩
  obtain ⟨hok, i1, i2, a1, a2⟩ := stA_ok hcs h
  have e := stA_0 hcs h
  have hth : (stA c t (cu g) (am g)).th = t.th + max (cu g) (-(cu g)) := by rw [e, Sta.th_mk]; unfold nxH; rfl
  have hag : (stA c t (cu g) (am g)).ag = t.ag + valL c.stress t.tp := by rw [e, Sta.ag_mk]; unfold nxA; rfl
  have hq : (stA c t (cu g) (am g)).q = clipV (t.q - cu g - c.leak) 0 (kV c (stA c t (cu g) (am g))) := by
    have e1 : kV c (stA c t (cu g) (am g)) = roomV c (wearV c (nxH t (cu g)) (nxA c t)) := by
      unfold kV wV
      rw [e, Sta.th_mk, Sta.ag_mk]
    rw [e1, e, Sta.q_mk]
    unfold nxQ
    rfl
  generalize stA c t (cu g) (am g) = u at *
  have hcu : csE c u = 0 := csE_0 hcb hok
  rw [aV_yes hcu, aE_yes hcu]
  have vs := sc_val hk.stress t.tp
  have k1 := kV_le hcb hst (u := u) (by omega) (by omega)
  have k2 := kV_in hcb hok
  have := hk.lk0
  have := hk.lk1
  have := hst.h0
  have := hst.a0
  have cq := @clipV_in (t.q - cu g - c.leak) 0 (kV c u) (by omega)
  rw [← hq] at cq
  have hfree : b = true → c.leak ≤ ch - cu g → ch - cu g - c.leak ≤ kV c u → u.q = ch - cu g - c.leak := fun h1 h2 h3 => by
    rw [hq, ← hb h1]
    unfold clipV
    omega
  have gn : (g : Int) < 60 := by omega
  refine ⟨hmax, hlt, by omega, by omega, by omega, by omega, fun g1 g2 g3 g4 g5 g6 g7 g8 g9 => ⟨g1, g2, g3, g4, g5, g6, g7, g8, g9⟩, rfl, by omega, by omega, k1, cq.1, cq.2, hfree, fun _ _ _ _ _ _ _ => ⟨by omega, by omega, g + 1, u, rfl, by omega, rfl, rfl, rfl, rfl, rfl, agInv_iff.2 ⟨by omega, hok, by omega, by omega, fun hf => ?_⟩, by omega⟩⟩
  simp at hf
  exact (hfree hf.1.1 (by omega) hf.2).symm
end
end Abs
open Go.ChangeShapes Go.WideShapes Go.ChangeAt Go.RowKit
set_option maxRecDepth 100000 in
theorem cellAges_lifted (os : Os) (started : os.Started) (H : Type) (enc : TypeId × Value → H) :
    ReturnsInHanded {} Try.checked os 3 .any (Rows.cellAgesSpec.pre6 enc Try.prog Try.f3 Rows.cellAgesRow.domain false) (Rows.cellAgesSpec.post enc Try.prog Try.f3 false true false false) := by
  refine returnsInHanded_of_change (C := Try.checked) (show ownKnob Try.prog.godebug = none by kernel_rfl) started (by kernel_rfl) Try.func3
    (ChangeSpec.witness6 (enc := enc) (C := Try.checked) false ⟨#[], #[.agg #[.int .i64 0, .slice none 0 0, .slice none 0 0, .int .i64 0, .slice none 0 0, .slice none 0 0, .int .i64 0, .int .i64 0, .int .i64 0, .int .i64 0, .int .i64 0, .int .i64 0, .slice none 0 0, .slice none 0 0, .int .i64 0, .int .i64 0, .int .i64 0], .agg #[.int .i64 0, .int .i64 0, .int .i64 0, .int .i64 0, .int .i64 0], .slice none 0 0], []⟩ 8 (by kernel_rfl) (by kernel_rfl) (by kernel_rfl) (by kernel_rfl)) ?_
  intro W base args ds gs before hval0 hW hcnd _
  have hW0 := hW
  obtain ⟨p, q, hA, hV, rfl, hfz, hnd⟩ := hW0
  refine (Abs.law_calls (enc' := enc) Abs.cellAges_law (fn := Try.f3) (d := 4) (by kernel_rfl) hA hval0).mono fun e W' hh => ?_
  obtain ⟨he, hb⟩ := hh
  subst he
  exact ⟨_, rfl, Abs.law_post (s := Rows.cellAgesSpec) (f := Try.f3) (by kernel_rfl) rfl (by kernel_rfl) (by kernel_rfl) rfl 3 (by kernel_rfl) (fun ds hl => by
    rcases ds with _ | ⟨d0, _ | ⟨d1, _ | ⟨d2, _ | ⟨d3, _⟩⟩⟩⟩
    all_goals first | exact ⟨rfl, rfl, rfl⟩ | (exfalso; simp only [List.length_cons, List.length_nil] at hl; omega)) hW hb⟩
theorem cellAges_holds : Rows.CellAgesSaid :=
  OpenClaim.holds_of_wide 3 Try.f3 rfl rfl rfl rfl rfl rfl rfl ⟨rfl, rfl, rfl, rfl, rfl⟩ rfl rfl rfl rfl rfl (by kernel_rfl) Try.func3 (by kernel_rfl)
    (of_decide_eq_true (by kernel_rfl)) (by unfold Func.isWrapper; first | (rw [if_pos (by decide +kernel)]; kernel_rfl) | (rw [if_neg (by decide +kernel)]; exact ⟨rfl, rfl⟩))
    (fun os started H enc _ => cellAges_lifted os started H enc)
end Go.Proofs.Ytghmkkdmpmmbhaa
